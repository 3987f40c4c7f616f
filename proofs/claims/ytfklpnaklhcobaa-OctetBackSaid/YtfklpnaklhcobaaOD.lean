/- the document's Num, Word, Text -/
import Derived.Test.YtfklpnaklhcobaaOC
namespace Go.Proofs.Ytfklpnaklhcobaa.K
open Go.RowKit Go.Lib
set_option linter.unusedVariables false


set_option maxRecDepth 20000 in
set_option maxHeartbeats 4000000 in
theorem rnum_arg (l : List UInt8) (wd n : Int) (h : wd < 1 ∨ 6 < wd) : GCall Try.prog 9 [(.d (.sl l.length (bytesD l))), (.d (.lit (.int .i64 wd))), (.d (.lit (.int .i64 n)))] [] (.tup [(.d (.sl 0 [])), (.d (.lit (.int .i64 2)))]) [] := by
  refine GCall.of_body (n := 38) (rs := [(.tmp 6), (.tmp 7)]) Try.func9 rfl rfl rfl ?_
  refine AWP.to_ (st' := ⟨[(.d (.sl l.length (bytesD l))), (.d (.lit (.int .i64 wd))), (.d (.lit (.int .i64 n))), (.tup []), (.tup []), (.tup []), (.tup []), (.tup []), (.tup []), (.tup []), (.tup []), (.tup []), (.tup []), (.tup []), (.tup []), (.tup []), (.tup []), (.tup []), (.tup []), (.tup []), (.tup []), (.tup []), (.tup []), (.tup []), (.tup []), (.tup []), (.tup []), (.tup []), (.tup []), (.tup []), (.tup []), (.tup []), (.tup []), (.tup []), (.tup []), (.tup []), (.tup []), (.tup [])], [], 0⟩) (by kernel_rfl) ?_
  refine AWP.seq ?_
  refine AWP.text ?_
  refine Walk.yes (val := (.d .nil)) (bl := []) (by kernel_rfl) ((op_move rfl).cast (by kernel_rfl)) ?_
  refine Walk.yes (val := (.d (.lit (.int .i64 0)))) (bl := []) (by kernel_rfl) ((op_move rfl).cast (by kernel_rfl)) ?_
  refine Walk.to_ (st' := ⟨[(.d (.sl l.length (bytesD l))), (.d (.lit (.int .i64 wd))), (.d (.lit (.int .i64 n))), (.tup []), (.tup []), (.tup []), (.d .nil), (.d (.lit (.int .i64 0))), (.tup []), (.tup []), (.tup []), (.tup []), (.tup []), (.tup []), (.tup []), (.tup []), (.tup []), (.tup []), (.tup []), (.tup []), (.tup []), (.tup []), (.tup []), (.tup []), (.tup []), (.tup []), (.tup []), (.tup []), (.tup []), (.tup []), (.tup []), (.tup []), (.tup []), (.tup []), (.tup []), (.tup []), (.tup []), (.tup [])], [], 0⟩) (by kernel_rfl) ?_
  refine Walk.nil ?_
  refine Then.normal ?_
  refine AWP.seq ?_
  refine AWP.seq ?_
  refine AWP.text ?_
  refine Walk.yes (val := (.d (.lit (.int .i64 wd)))) (bl := []) (by kernel_rfl) ((op_move rfl).cast (by kernel_rfl)) ?_
  by_cases h1 : wd < 1
  · refine Walk.yes (val := (.d (.lit (.bool true)))) (bl := []) (by kernel_rfl) (((op_bin rfl (a1 := (.int .i64 wd)) (a2 := (.int .i64 1)) (by kernel_rfl) (by kernel_rfl) (fun _ => hb_lss))).cast (lit_T (by have := (h1); omega))) ?_
    refine Walk.yes (val := (.d (.lit (.bool true)))) (bl := []) (by kernel_rfl) ((op_move rfl).cast (by kernel_rfl)) ?_
    refine Walk.no (by kernel_rfl) ?_
    refine Walk.no (by kernel_rfl) ?_
    refine Walk.yes (val := (.d (.lit (.bool true)))) (bl := []) (by kernel_rfl) ((op_pickT rfl (by kernel_rfl)).cast (by kernel_rfl)) ?_
    refine Walk.to_ (st' := ⟨[(.d (.sl l.length (bytesD l))), (.d (.lit (.int .i64 wd))), (.d (.lit (.int .i64 n))), (.tup []), (.tup []), (.tup []), (.d .nil), (.d (.lit (.int .i64 0))), (.tup []), (.tup []), (.d (.lit (.int .i64 wd))), (.d (.lit (.bool true))), (.d (.lit (.bool true))), (.tup []), (.tup []), (.d (.lit (.bool true))), (.tup []), (.tup []), (.tup []), (.tup []), (.tup []), (.tup []), (.tup []), (.tup []), (.tup []), (.tup []), (.tup []), (.tup []), (.tup []), (.tup []), (.tup []), (.tup []), (.tup []), (.tup []), (.tup []), (.tup []), (.tup []), (.tup [])], [], 0⟩) (by kernel_rfl) ?_
    refine Walk.nil ?_
    refine Then.normal ?_
    refine AWP.if_ true (by kernel_rfl) ?_
    refine AWP.seq ?_
    refine AWP.text ?_
    refine Walk.yes (val := (.d .nil)) (bl := []) (by kernel_rfl) ((op_move rfl).cast (by kernel_rfl)) ?_
    refine Walk.yes (val := (.d (.lit (.int .i64 2)))) (bl := []) (by kernel_rfl) ((op_move rfl).cast (by kernel_rfl)) ?_
    refine Walk.to_ (st' := ⟨[(.d (.sl l.length (bytesD l))), (.d (.lit (.int .i64 wd))), (.d (.lit (.int .i64 n))), (.tup []), (.tup []), (.tup []), (.d .nil), (.d (.lit (.int .i64 2))), (.tup []), (.tup []), (.d (.lit (.int .i64 wd))), (.d (.lit (.bool true))), (.d (.lit (.bool true))), (.tup []), (.tup []), (.d (.lit (.bool true))), (.tup []), (.tup []), (.tup []), (.tup []), (.tup []), (.tup []), (.tup []), (.tup []), (.tup []), (.tup []), (.tup []), (.tup []), (.tup []), (.tup []), (.tup []), (.tup []), (.tup []), (.tup []), (.tup []), (.tup []), (.tup []), (.tup [])], [], 0⟩) (by kernel_rfl) ?_
    refine Walk.nil ?_
    refine Then.normal ?_
    refine AWP.ret ?_
    refine Then.ret ?_
    exact ret_intro [] [(.d .nil), (.d (.lit (.int .i64 2)))] (by kernel_rfl) (by kernel_rfl) (trivial) (by kernel_rfl) ⟨Nat.le_of_ble_eq_true rfl, rfl⟩
  · refine Walk.yes (val := (.d (.lit (.bool false)))) (bl := []) (by kernel_rfl) (((op_bin rfl (a1 := (.int .i64 wd)) (a2 := (.int .i64 1)) (by kernel_rfl) (by kernel_rfl) (fun _ => hb_lss))).cast (lit_F (by have := (h1); omega))) ?_
    refine Walk.yes (val := (.d (.lit (.bool false)))) (bl := []) (by kernel_rfl) ((op_move rfl).cast (by kernel_rfl)) ?_
    refine Walk.yes (val := (.d (.lit (.int .i64 wd)))) (bl := []) (by kernel_rfl) ((op_move rfl).cast (by kernel_rfl)) ?_
    refine Walk.yes (val := (.d (.lit (.bool true)))) (bl := []) (by kernel_rfl) (((op_bin rfl (a1 := (.int .i64 wd)) (a2 := (.int .i64 6)) (by kernel_rfl) (by kernel_rfl) (fun _ => hb_gtr))).cast (lit_T (by omega))) ?_
    refine Walk.yes (val := (.d (.lit (.bool true)))) (bl := []) (by kernel_rfl) ((op_pickF rfl (by kernel_rfl)).cast (by kernel_rfl)) ?_
    refine Walk.to_ (st' := ⟨[(.d (.sl l.length (bytesD l))), (.d (.lit (.int .i64 wd))), (.d (.lit (.int .i64 n))), (.tup []), (.tup []), (.tup []), (.d .nil), (.d (.lit (.int .i64 0))), (.tup []), (.tup []), (.d (.lit (.int .i64 wd))), (.d (.lit (.bool false))), (.d (.lit (.bool false))), (.d (.lit (.int .i64 wd))), (.d (.lit (.bool true))), (.d (.lit (.bool true))), (.tup []), (.tup []), (.tup []), (.tup []), (.tup []), (.tup []), (.tup []), (.tup []), (.tup []), (.tup []), (.tup []), (.tup []), (.tup []), (.tup []), (.tup []), (.tup []), (.tup []), (.tup []), (.tup []), (.tup []), (.tup []), (.tup [])], [], 0⟩) (by kernel_rfl) ?_
    refine Walk.nil ?_
    refine Then.normal ?_
    refine AWP.if_ true (by kernel_rfl) ?_
    refine AWP.seq ?_
    refine AWP.text ?_
    refine Walk.yes (val := (.d .nil)) (bl := []) (by kernel_rfl) ((op_move rfl).cast (by kernel_rfl)) ?_
    refine Walk.yes (val := (.d (.lit (.int .i64 2)))) (bl := []) (by kernel_rfl) ((op_move rfl).cast (by kernel_rfl)) ?_
    refine Walk.to_ (st' := ⟨[(.d (.sl l.length (bytesD l))), (.d (.lit (.int .i64 wd))), (.d (.lit (.int .i64 n))), (.tup []), (.tup []), (.tup []), (.d .nil), (.d (.lit (.int .i64 2))), (.tup []), (.tup []), (.d (.lit (.int .i64 wd))), (.d (.lit (.bool false))), (.d (.lit (.bool false))), (.d (.lit (.int .i64 wd))), (.d (.lit (.bool true))), (.d (.lit (.bool true))), (.tup []), (.tup []), (.tup []), (.tup []), (.tup []), (.tup []), (.tup []), (.tup []), (.tup []), (.tup []), (.tup []), (.tup []), (.tup []), (.tup []), (.tup []), (.tup []), (.tup []), (.tup []), (.tup []), (.tup []), (.tup []), (.tup [])], [], 0⟩) (by kernel_rfl) ?_
    refine Walk.nil ?_
    refine Then.normal ?_
    refine AWP.ret ?_
    refine Then.ret ?_
    exact ret_intro [] [(.d .nil), (.d (.lit (.int .i64 2)))] (by kernel_rfl) (by kernel_rfl) (trivial) (by kernel_rfl) ⟨Nat.le_of_ble_eq_true rfl, rfl⟩
set_option maxRecDepth 20000 in
set_option maxHeartbeats 4000000 in
theorem rnum_neg (l : List UInt8) (wd : Nat) (n : Int) (h1 : 1 ≤ wd) (h6 : wd ≤ 6) (hn : n < 0) : GCall Try.prog 9 [(.d (.sl l.length (bytesD l))), (.d (.lit (.int .i64 ((wd : Nat) : Int)))), (.d (.lit (.int .i64 n)))] [] (.tup [(.d (.sl 0 [])), (.d (.lit (.int .i64 8)))]) [] := by
  refine GCall.of_body (n := 38) (rs := [(.tmp 6), (.tmp 7)]) Try.func9 rfl rfl rfl ?_
  refine AWP.to_ (st' := ⟨[(.d (.sl l.length (bytesD l))), (.d (.lit (.int .i64 ((wd : Nat) : Int)))), (.d (.lit (.int .i64 n))), (.tup []), (.tup []), (.tup []), (.tup []), (.tup []), (.tup []), (.tup []), (.tup []), (.tup []), (.tup []), (.tup []), (.tup []), (.tup []), (.tup []), (.tup []), (.tup []), (.tup []), (.tup []), (.tup []), (.tup []), (.tup []), (.tup []), (.tup []), (.tup []), (.tup []), (.tup []), (.tup []), (.tup []), (.tup []), (.tup []), (.tup []), (.tup []), (.tup []), (.tup []), (.tup [])], [], 0⟩) (by kernel_rfl) ?_
  refine AWP.seq ?_
  refine AWP.text ?_
  refine Walk.yes (val := (.d .nil)) (bl := []) (by kernel_rfl) ((op_move rfl).cast (by kernel_rfl)) ?_
  refine Walk.yes (val := (.d (.lit (.int .i64 0)))) (bl := []) (by kernel_rfl) ((op_move rfl).cast (by kernel_rfl)) ?_
  refine Walk.to_ (st' := ⟨[(.d (.sl l.length (bytesD l))), (.d (.lit (.int .i64 ((wd : Nat) : Int)))), (.d (.lit (.int .i64 n))), (.tup []), (.tup []), (.tup []), (.d .nil), (.d (.lit (.int .i64 0))), (.tup []), (.tup []), (.tup []), (.tup []), (.tup []), (.tup []), (.tup []), (.tup []), (.tup []), (.tup []), (.tup []), (.tup []), (.tup []), (.tup []), (.tup []), (.tup []), (.tup []), (.tup []), (.tup []), (.tup []), (.tup []), (.tup []), (.tup []), (.tup []), (.tup []), (.tup []), (.tup []), (.tup []), (.tup []), (.tup [])], [], 0⟩) (by kernel_rfl) ?_
  refine Walk.nil ?_
  refine Then.normal ?_
  refine AWP.seq ?_
  refine AWP.seq ?_
  refine AWP.text ?_
  refine Walk.yes (val := (.d (.lit (.int .i64 ((wd : Nat) : Int))))) (bl := []) (by kernel_rfl) ((op_move rfl).cast (by kernel_rfl)) ?_
  refine Walk.yes (val := (.d (.lit (.bool false)))) (bl := []) (by kernel_rfl) (((op_bin rfl (a1 := (.int .i64 ((wd : Nat) : Int))) (a2 := (.int .i64 1)) (by kernel_rfl) (by kernel_rfl) (fun _ => hb_lss))).cast (lit_F (by omega))) ?_
  refine Walk.yes (val := (.d (.lit (.bool false)))) (bl := []) (by kernel_rfl) ((op_move rfl).cast (by kernel_rfl)) ?_
  refine Walk.yes (val := (.d (.lit (.int .i64 ((wd : Nat) : Int))))) (bl := []) (by kernel_rfl) ((op_move rfl).cast (by kernel_rfl)) ?_
  refine Walk.yes (val := (.d (.lit (.bool false)))) (bl := []) (by kernel_rfl) (((op_bin rfl (a1 := (.int .i64 ((wd : Nat) : Int))) (a2 := (.int .i64 6)) (by kernel_rfl) (by kernel_rfl) (fun _ => hb_gtr))).cast (lit_F (by omega))) ?_
  refine Walk.yes (val := (.d (.lit (.bool false)))) (bl := []) (by kernel_rfl) ((op_pickF rfl (by kernel_rfl)).cast (by kernel_rfl)) ?_
  refine Walk.to_ (st' := ⟨[(.d (.sl l.length (bytesD l))), (.d (.lit (.int .i64 ((wd : Nat) : Int)))), (.d (.lit (.int .i64 n))), (.tup []), (.tup []), (.tup []), (.d .nil), (.d (.lit (.int .i64 0))), (.tup []), (.tup []), (.d (.lit (.int .i64 ((wd : Nat) : Int)))), (.d (.lit (.bool false))), (.d (.lit (.bool false))), (.d (.lit (.int .i64 ((wd : Nat) : Int)))), (.d (.lit (.bool false))), (.d (.lit (.bool false))), (.tup []), (.tup []), (.tup []), (.tup []), (.tup []), (.tup []), (.tup []), (.tup []), (.tup []), (.tup []), (.tup []), (.tup []), (.tup []), (.tup []), (.tup []), (.tup []), (.tup []), (.tup []), (.tup []), (.tup []), (.tup []), (.tup [])], [], 0⟩) (by kernel_rfl) ?_
  refine Walk.nil ?_
  refine Then.normal ?_
  refine AWP.if_ false (by kernel_rfl) ?_
  refine AWP.skip ?_
  refine Then.normal ?_
  refine AWP.seq ?_
  refine AWP.seq ?_
  refine AWP.text ?_
  refine Walk.yes (val := (.d (.lit (.int .i64 n)))) (bl := []) (by kernel_rfl) ((op_move rfl).cast (by kernel_rfl)) ?_
  refine Walk.yes (val := (.d (.lit (.bool true)))) (bl := []) (by kernel_rfl) (((op_bin rfl (a1 := (.int .i64 n)) (a2 := (.int .i64 0)) (by kernel_rfl) (by kernel_rfl) (fun _ => hb_lss))).cast (lit_T (by omega))) ?_
  refine Walk.to_ (st' := ⟨[(.d (.sl l.length (bytesD l))), (.d (.lit (.int .i64 ((wd : Nat) : Int)))), (.d (.lit (.int .i64 n))), (.tup []), (.tup []), (.tup []), (.d .nil), (.d (.lit (.int .i64 0))), (.tup []), (.tup []), (.d (.lit (.int .i64 ((wd : Nat) : Int)))), (.d (.lit (.bool false))), (.d (.lit (.bool false))), (.d (.lit (.int .i64 ((wd : Nat) : Int)))), (.d (.lit (.bool false))), (.d (.lit (.bool false))), (.d (.lit (.int .i64 n))), (.d (.lit (.bool true))), (.tup []), (.tup []), (.tup []), (.tup []), (.tup []), (.tup []), (.tup []), (.tup []), (.tup []), (.tup []), (.tup []), (.tup []), (.tup []), (.tup []), (.tup []), (.tup []), (.tup []), (.tup []), (.tup []), (.tup [])], [], 0⟩) (by kernel_rfl) ?_
  refine Walk.nil ?_
  refine Then.normal ?_
  refine AWP.if_ true (by kernel_rfl) ?_
  refine AWP.seq ?_
  refine AWP.text ?_
  refine Walk.yes (val := (.d .nil)) (bl := []) (by kernel_rfl) ((op_move rfl).cast (by kernel_rfl)) ?_
  refine Walk.yes (val := (.d (.lit (.int .i64 8)))) (bl := []) (by kernel_rfl) ((op_move rfl).cast (by kernel_rfl)) ?_
  refine Walk.to_ (st' := ⟨[(.d (.sl l.length (bytesD l))), (.d (.lit (.int .i64 ((wd : Nat) : Int)))), (.d (.lit (.int .i64 n))), (.tup []), (.tup []), (.tup []), (.d .nil), (.d (.lit (.int .i64 8))), (.tup []), (.tup []), (.d (.lit (.int .i64 ((wd : Nat) : Int)))), (.d (.lit (.bool false))), (.d (.lit (.bool false))), (.d (.lit (.int .i64 ((wd : Nat) : Int)))), (.d (.lit (.bool false))), (.d (.lit (.bool false))), (.d (.lit (.int .i64 n))), (.d (.lit (.bool true))), (.tup []), (.tup []), (.tup []), (.tup []), (.tup []), (.tup []), (.tup []), (.tup []), (.tup []), (.tup []), (.tup []), (.tup []), (.tup []), (.tup []), (.tup []), (.tup []), (.tup []), (.tup []), (.tup []), (.tup [])], [], 0⟩) (by kernel_rfl) ?_
  refine Walk.nil ?_
  refine Then.normal ?_
  refine AWP.ret ?_
  refine Then.ret ?_
  exact ret_intro [] [(.d .nil), (.d (.lit (.int .i64 8)))] (by kernel_rfl) (by kernel_rfl) (trivial) (by kernel_rfl) ⟨Nat.le_of_ble_eq_true rfl, rfl⟩
set_option maxRecDepth 20000 in
set_option maxHeartbeats 4000000 in
theorem rnum_big (l : List UInt8) (wd n : Nat) (h1 : 1 ≤ wd) (h6 : wd ≤ 6) (hn : n < 9223372036854775808) (hb : n / 256 ^ wd ≠ 0) : GCall Try.prog 9 [(.d (.sl l.length (bytesD l))), (.d (.lit (.int .i64 ((wd : Nat) : Int)))), (.d (.lit (.int .i64 ((n : Nat) : Int))))] [] (.tup [(.d (.sl 0 [])), (.d (.lit (.int .i64 8)))]) [] := by
  refine GCall.of_body (n := 38) (rs := [(.tmp 6), (.tmp 7)]) Try.func9 rfl rfl rfl ?_
  refine AWP.to_ (st' := ⟨[(.d (.sl l.length (bytesD l))), (.d (.lit (.int .i64 ((wd : Nat) : Int)))), (.d (.lit (.int .i64 ((n : Nat) : Int)))), (.tup []), (.tup []), (.tup []), (.tup []), (.tup []), (.tup []), (.tup []), (.tup []), (.tup []), (.tup []), (.tup []), (.tup []), (.tup []), (.tup []), (.tup []), (.tup []), (.tup []), (.tup []), (.tup []), (.tup []), (.tup []), (.tup []), (.tup []), (.tup []), (.tup []), (.tup []), (.tup []), (.tup []), (.tup []), (.tup []), (.tup []), (.tup []), (.tup []), (.tup []), (.tup [])], [], 0⟩) (by kernel_rfl) ?_
  refine AWP.seq ?_
  refine AWP.text ?_
  refine Walk.yes (val := (.d .nil)) (bl := []) (by kernel_rfl) ((op_move rfl).cast (by kernel_rfl)) ?_
  refine Walk.yes (val := (.d (.lit (.int .i64 0)))) (bl := []) (by kernel_rfl) ((op_move rfl).cast (by kernel_rfl)) ?_
  refine Walk.to_ (st' := ⟨[(.d (.sl l.length (bytesD l))), (.d (.lit (.int .i64 ((wd : Nat) : Int)))), (.d (.lit (.int .i64 ((n : Nat) : Int)))), (.tup []), (.tup []), (.tup []), (.d .nil), (.d (.lit (.int .i64 0))), (.tup []), (.tup []), (.tup []), (.tup []), (.tup []), (.tup []), (.tup []), (.tup []), (.tup []), (.tup []), (.tup []), (.tup []), (.tup []), (.tup []), (.tup []), (.tup []), (.tup []), (.tup []), (.tup []), (.tup []), (.tup []), (.tup []), (.tup []), (.tup []), (.tup []), (.tup []), (.tup []), (.tup []), (.tup []), (.tup [])], [], 0⟩) (by kernel_rfl) ?_
  refine Walk.nil ?_
  refine Then.normal ?_
  refine AWP.seq ?_
  refine AWP.seq ?_
  refine AWP.text ?_
  refine Walk.yes (val := (.d (.lit (.int .i64 ((wd : Nat) : Int))))) (bl := []) (by kernel_rfl) ((op_move rfl).cast (by kernel_rfl)) ?_
  refine Walk.yes (val := (.d (.lit (.bool false)))) (bl := []) (by kernel_rfl) (((op_bin rfl (a1 := (.int .i64 ((wd : Nat) : Int))) (a2 := (.int .i64 1)) (by kernel_rfl) (by kernel_rfl) (fun _ => hb_lss))).cast (lit_F (by omega))) ?_
  refine Walk.yes (val := (.d (.lit (.bool false)))) (bl := []) (by kernel_rfl) ((op_move rfl).cast (by kernel_rfl)) ?_
  refine Walk.yes (val := (.d (.lit (.int .i64 ((wd : Nat) : Int))))) (bl := []) (by kernel_rfl) ((op_move rfl).cast (by kernel_rfl)) ?_
  refine Walk.yes (val := (.d (.lit (.bool false)))) (bl := []) (by kernel_rfl) (((op_bin rfl (a1 := (.int .i64 ((wd : Nat) : Int))) (a2 := (.int .i64 6)) (by kernel_rfl) (by kernel_rfl) (fun _ => hb_gtr))).cast (lit_F (by omega))) ?_
  refine Walk.yes (val := (.d (.lit (.bool false)))) (bl := []) (by kernel_rfl) ((op_pickF rfl (by kernel_rfl)).cast (by kernel_rfl)) ?_
  refine Walk.to_ (st' := ⟨[(.d (.sl l.length (bytesD l))), (.d (.lit (.int .i64 ((wd : Nat) : Int)))), (.d (.lit (.int .i64 ((n : Nat) : Int)))), (.tup []), (.tup []), (.tup []), (.d .nil), (.d (.lit (.int .i64 0))), (.tup []), (.tup []), (.d (.lit (.int .i64 ((wd : Nat) : Int)))), (.d (.lit (.bool false))), (.d (.lit (.bool false))), (.d (.lit (.int .i64 ((wd : Nat) : Int)))), (.d (.lit (.bool false))), (.d (.lit (.bool false))), (.tup []), (.tup []), (.tup []), (.tup []), (.tup []), (.tup []), (.tup []), (.tup []), (.tup []), (.tup []), (.tup []), (.tup []), (.tup []), (.tup []), (.tup []), (.tup []), (.tup []), (.tup []), (.tup []), (.tup []), (.tup []), (.tup [])], [], 0⟩) (by kernel_rfl) ?_
  refine Walk.nil ?_
  refine Then.normal ?_
  refine AWP.if_ false (by kernel_rfl) ?_
  refine AWP.skip ?_
  refine Then.normal ?_
  refine AWP.seq ?_
  refine AWP.seq ?_
  refine AWP.text ?_
  refine Walk.yes (val := (.d (.lit (.int .i64 ((n : Nat) : Int))))) (bl := []) (by kernel_rfl) ((op_move rfl).cast (by kernel_rfl)) ?_
  refine Walk.yes (val := (.d (.lit (.bool false)))) (bl := []) (by kernel_rfl) (((op_bin rfl (a1 := (.int .i64 ((n : Nat) : Int))) (a2 := (.int .i64 0)) (by kernel_rfl) (by kernel_rfl) (fun _ => hb_lss))).cast (lit_F (by omega))) ?_
  refine Walk.to_ (st' := ⟨[(.d (.sl l.length (bytesD l))), (.d (.lit (.int .i64 ((wd : Nat) : Int)))), (.d (.lit (.int .i64 ((n : Nat) : Int)))), (.tup []), (.tup []), (.tup []), (.d .nil), (.d (.lit (.int .i64 0))), (.tup []), (.tup []), (.d (.lit (.int .i64 ((wd : Nat) : Int)))), (.d (.lit (.bool false))), (.d (.lit (.bool false))), (.d (.lit (.int .i64 ((wd : Nat) : Int)))), (.d (.lit (.bool false))), (.d (.lit (.bool false))), (.d (.lit (.int .i64 ((n : Nat) : Int)))), (.d (.lit (.bool false))), (.tup []), (.tup []), (.tup []), (.tup []), (.tup []), (.tup []), (.tup []), (.tup []), (.tup []), (.tup []), (.tup []), (.tup []), (.tup []), (.tup []), (.tup []), (.tup []), (.tup []), (.tup []), (.tup []), (.tup [])], [], 0⟩) (by kernel_rfl) ?_
  refine Walk.nil ?_
  refine Then.normal ?_
  refine AWP.if_ false (by kernel_rfl) ?_
  refine AWP.skip ?_
  refine Then.normal ?_
  refine AWP.seq ?_
  refine AWP.text ?_
  refine Walk.yes (val := (.d .nil)) (bl := []) (by kernel_rfl) ((op_move rfl).cast (by kernel_rfl)) ?_
  refine Walk.to_ (st' := ⟨[(.d (.sl l.length (bytesD l))), (.d (.lit (.int .i64 ((wd : Nat) : Int)))), (.d (.lit (.int .i64 ((n : Nat) : Int)))), (.tup []), (.tup []), (.tup []), (.d .nil), (.d (.lit (.int .i64 0))), (.d .nil), (.tup []), (.d (.lit (.int .i64 ((wd : Nat) : Int)))), (.d (.lit (.bool false))), (.d (.lit (.bool false))), (.d (.lit (.int .i64 ((wd : Nat) : Int)))), (.d (.lit (.bool false))), (.d (.lit (.bool false))), (.d (.lit (.int .i64 ((n : Nat) : Int)))), (.d (.lit (.bool false))), (.tup []), (.tup []), (.tup []), (.tup []), (.tup []), (.tup []), (.tup []), (.tup []), (.tup []), (.tup []), (.tup []), (.tup []), (.tup []), (.tup []), (.tup []), (.tup []), (.tup []), (.tup []), (.tup []), (.tup [])], [], 0⟩) (by kernel_rfl) ?_
  refine Walk.nil ?_
  refine Then.normal ?_
  refine AWP.seq ?_
  refine AWP.seq ?_
  refine AWP.text ?_
  refine Walk.yes (val := (.d (.lit (.int .i64 0)))) (bl := []) (by kernel_rfl) ((op_move rfl).cast (by kernel_rfl)) ?_
  refine Walk.to_ (st' := ⟨[(.d (.sl l.length (bytesD l))), (.d (.lit (.int .i64 ((wd : Nat) : Int)))), (.d (.lit (.int .i64 ((n : Nat) : Int)))), (.tup []), (.tup []), (.tup []), (.d .nil), (.d (.lit (.int .i64 0))), (.d .nil), (.d (.lit (.int .i64 0))), (.d (.lit (.int .i64 ((wd : Nat) : Int)))), (.d (.lit (.bool false))), (.d (.lit (.bool false))), (.d (.lit (.int .i64 ((wd : Nat) : Int)))), (.d (.lit (.bool false))), (.d (.lit (.bool false))), (.d (.lit (.int .i64 ((n : Nat) : Int)))), (.d (.lit (.bool false))), (.tup []), (.tup []), (.tup []), (.tup []), (.tup []), (.tup []), (.tup []), (.tup []), (.tup []), (.tup []), (.tup []), (.tup []), (.tup []), (.tup []), (.tup []), (.tup []), (.tup []), (.tup []), (.tup []), (.tup [])], [], 0⟩) (by kernel_rfl) ?_
  refine Walk.nil ?_
  refine Then.normal ?_
  refine AWP.block ?_
  refine AWP.weak (Weak.own (st' := ⟨[(.d (.sl l.length (bytesD l))), (.d (.lit (.int .i64 ((wd : Nat) : Int)))), (.d (.lit (.int .i64 ((n : Nat) : Int)))), (.tup []), (.tup []), (.tup []), (.d .nil), (.d (.lit (.int .i64 0))), (.own 0), (.d (.lit (.int .i64 0))), (.d (.lit (.int .i64 ((wd : Nat) : Int)))), (.d (.lit (.bool false))), (.d (.lit (.bool false))), (.d (.lit (.int .i64 ((wd : Nat) : Int)))), (.d (.lit (.bool false))), (.d (.lit (.bool false))), (.d (.lit (.int .i64 ((n : Nat) : Int)))), (.d (.lit (.bool false))), (.tup []), (.tup []), (.tup []), (.tup []), (.tup []), (.tup []), (.tup []), (.tup []), (.tup []), (.tup []), (.tup []), (.tup []), (.tup []), (.tup []), (.tup []), (.tup []), (.tup []), (.tup []), (.tup []), (.tup [])], [(.arr 5 1 0 [])], 0⟩) 0 5 1 (by kernel_rfl) rfl (⟨.inl rfl, .inl rfl, .inl rfl, .inl rfl, .inl rfl, .inl rfl, .inl rfl, .inl rfl, .inr ⟨rfl, rfl⟩, .inl rfl, .inl rfl, .inl rfl, .inl rfl, .inl rfl, .inl rfl, .inl rfl, .inl rfl, .inl rfl, .inl rfl, .inl rfl, .inl rfl, .inl rfl, .inl rfl, .inl rfl, .inl rfl, .inl rfl, .inl rfl, .inl rfl, .inl rfl, .inl rfl, .inl rfl, .inl rfl, .inl rfl, .inl rfl, .inl rfl, .inl rfl, .inl rfl, .inl rfl, trivial⟩) (by kernel_rfl) (fun j hj => .inl (getD_snoc (by rfl) hj))) ?_
  refine AWP.loopI (α := Nat)
    (fun (x : Nat) => match x with | k => (⟨[(.d (.sl l.length (bytesD l))), (.d (.lit (.int .i64 ((wd : Nat) : Int)))), (.d (.lit (.int .i64 ((n / 256 ^ k : Nat) : Int)))), (.tup []), (.tup []), (.tup []), (.d .nil), (.d (.lit (.int .i64 0))), (.own 0), (.d (.lit (.int .i64 ((k : Nat) : Int)))), (.d (.lit (.int .i64 ((wd : Nat) : Int)))), (.d (.lit (.bool false))), (.d (.lit (.bool false))), (.d (.lit (.int .i64 ((wd : Nat) : Int)))), (.d (.lit (.bool false))), (.d (.lit (.bool false))), (.d (.lit (.int .i64 ((n : Nat) : Int)))), (.d (.lit (.bool false))), .top, .top, .top, .top, .top, .top, .top, .top, .top, .top, .top, .top, .top, (.tup []), (.tup []), (.tup []), (.tup []), (.tup []), (.tup []), (.tup [])], [(.arr 5 1 ((beb k n).length) (bytesD (beb k n)))], 0⟩ : St))
    (fun (x : Nat) => match x with | k => k ≤ wd)
    (fun (x : Nat) => match x with | k => wd - k)
    0
    (Weak.to' (st' := _) [0] rfl (by kernel_rfl) rfl ⟨Nat.le_of_ble_eq_true rfl, rfl⟩ (⟨by first | rfl | exact ren_arr (by simp) (by simp [flatD_append]), trivial⟩) (⟨.inr (by kernel_rfl), .inr (by kernel_rfl), .inr (ren_int (by simp)), .inr (by kernel_rfl), .inr (by kernel_rfl), .inr (by kernel_rfl), .inr (by kernel_rfl), .inr (by kernel_rfl), .inr (by kernel_rfl), .inr (by first | rfl | exact ren_int (by first | rfl | omega | (simp; done)) | exact ren_eq (by simp)), .inr (by kernel_rfl), .inr (by kernel_rfl), .inr (by kernel_rfl), .inr (by kernel_rfl), .inr (by kernel_rfl), .inr (by kernel_rfl), .inr (by kernel_rfl), .inr (by kernel_rfl), .inl rfl, .inl rfl, .inl rfl, .inl rfl, .inl rfl, .inl rfl, .inl rfl, .inl rfl, .inl rfl, .inl rfl, .inl rfl, .inl rfl, .inl rfl, .inr (by kernel_rfl), .inr (by kernel_rfl), .inr (by kernel_rfl), .inr (by kernel_rfl), .inr (by kernel_rfl), .inr (by kernel_rfl), .inr (by kernel_rfl), trivial⟩))
    (Nat.zero_le _) ?_
  rintro k n_1 hI_1 ih_1
  dsimp only at hI_1 ih_1 ⊢
  have hle : n / 256 ^ k ≤ n := Nat.div_le_self _ _
  have hge : 0 ≤ ((n / 256 ^ k : Nat) : Int) := Int.natCast_nonneg _
  refine AWP.seq ?_
  refine AWP.seq ?_
  refine AWP.text ?_
  refine Walk.yes (val := (.d (.lit (.int .i64 ((k : Nat) : Int))))) (bl := []) (by kernel_rfl) ((op_move rfl).cast (by kernel_rfl)) ?_
  refine Walk.yes (val := (.d (.lit (.int .i64 ((wd : Nat) : Int))))) (bl := []) (by kernel_rfl) ((op_move rfl).cast (by kernel_rfl)) ?_
  by_cases h1 : k < wd
  · refine Walk.yes (val := (.d (.lit (.bool true)))) (bl := []) (by kernel_rfl) (((op_bin rfl (a1 := (.int .i64 ((k : Nat) : Int))) (a2 := (.int .i64 ((wd : Nat) : Int))) (by kernel_rfl) (by kernel_rfl) (fun _ => hb_lss))).cast (lit_T (by have := (h1); omega))) ?_
    refine Walk.to_ (st' := ⟨[(.d (.sl l.length (bytesD l))), (.d (.lit (.int .i64 ((wd : Nat) : Int)))), (.d (.lit (.int .i64 ((n / 256 ^ k : Nat) : Int)))), (.tup []), (.tup []), (.tup []), (.d .nil), (.d (.lit (.int .i64 0))), (.own 0), (.d (.lit (.int .i64 ((k : Nat) : Int)))), (.d (.lit (.int .i64 ((wd : Nat) : Int)))), (.d (.lit (.bool false))), (.d (.lit (.bool false))), (.d (.lit (.int .i64 ((wd : Nat) : Int)))), (.d (.lit (.bool false))), (.d (.lit (.bool false))), (.d (.lit (.int .i64 ((n : Nat) : Int)))), (.d (.lit (.bool false))), (.d (.lit (.int .i64 ((k : Nat) : Int)))), (.d (.lit (.int .i64 ((wd : Nat) : Int)))), (.d (.lit (.bool true))), .top, .top, .top, .top, .top, .top, .top, .top, .top, .top, (.tup []), (.tup []), (.tup []), (.tup []), (.tup []), (.tup []), (.tup [])], [(.arr 5 1 ((beb k n).length) (bytesD (beb k n)))], 0⟩) (by kernel_rfl) ?_
    refine Walk.nil ?_
    refine Then.normal ?_
    refine AWP.if_ true (by kernel_rfl) ?_
    refine AWP.skip ?_
    refine Then.normal ?_
    refine AWP.seq ?_
    refine AWP.block ?_
    refine AWP.seq ?_
    refine AWP.text ?_
    refine Walk.yes (val := (.d (.lit (.int .i64 ((n / 256 ^ k : Nat) : Int))))) (bl := []) (by kernel_rfl) ((op_move rfl).cast (by kernel_rfl)) ?_
    refine Walk.yes (val := (.d (.lit (.int .i64 (((n / 256 ^ k) % 256 : Nat) : Int))))) (bl := []) (by kernel_rfl) (((op_bin rfl (a1 := (.int .i64 ((n / 256 ^ k : Nat) : Int))) (a2 := (.int .i64 256)) (by kernel_rfl) (by kernel_rfl) (fun _ => hb_rem (by decide)))).cast (lit_rem (by omega) (by omega) (by decide) (by omega))) ?_
    refine Walk.yes (val := (.d (.lit (.int .u8 (((UInt8.ofNat (n / 256 ^ k % 256)).toNat : Nat) : Int))))) (bl := []) (by kernel_rfl) ((op_convert rfl (a1 := (.int .i64 (((n / 256 ^ k) % 256 : Nat) : Int))) (by kernel_rfl) (run_conv (ds := .int .i64) (k' := .u8) (by kernel_rfl) (by kernel_rfl))).cast (lit_u8 (by rw [byte_nat]; omega))) ?_
    refine Walk.yes (val := (.own 1)) (bl := [(1, (.arr 5 1 1 [(.lit (.int .u8 (((UInt8.ofNat (n / 256 ^ k % 256)).toNat : Nat) : Int)))]))]) (by kernel_rfl) (op_buildSlice rfl (e := 5) (sz := 1) (by kernel_rfl) (zs := [(.d (.lit (.int .u8 0)))]) (by kernel_rfl) (by kernel_rfl) (by decide) (by kernel_rfl) (ys := [(.d (.lit (.int .u8 (((UInt8.ofNat (n / 256 ^ k % 256)).toNat : Nat) : Int))))]) (by kernel_rfl) (by kernel_rfl) (by kernel_rfl) (by kernel_rfl)) ?_
    refine Walk.yes (val := (.own 0)) (bl := []) (by kernel_rfl) ((op_move rfl).cast (by kernel_rfl)) ?_
    refine Walk.yes (val := (.own 2)) (bl := [(1, .gone), (2, (.arr 5 1 ((beb (k + 1) n).length) (bytesD (beb (k + 1) n))))]) (by kernel_rfl) ((op_append rfl elemOK_22 (id := 1) (by kernel_rfl) (n := 1) (xs := [(.lit (.int .u8 (((UInt8.ofNat (n / 256 ^ k % 256)).toNat : Nat) : Int)))]) (by kernel_rfl) (y := (.own 0)) (by kernel_rfl) (ds := (bytesD (beb k n))) (off := 0) (k := ((beb k n).length)) (by kernel_rfl) (es := (bytesD (beb k n))) (byt_all) (byt_len) (by simp [beb_length]; omega) (by kernel_rfl) (by decide)).castB (bl_app (by simp [beb_length]; omega) (by rfl))) ?_
    refine Walk.yes (val := (.own 2)) (bl := []) (by kernel_rfl) ((op_move rfl).cast (by kernel_rfl)) ?_
    refine Walk.to_ (st' := ⟨[(.d (.sl l.length (bytesD l))), (.d (.lit (.int .i64 ((wd : Nat) : Int)))), (.d (.lit (.int .i64 ((n / 256 ^ k : Nat) : Int)))), (.tup []), (.tup []), (.tup []), (.d .nil), (.d (.lit (.int .i64 0))), (.own 2), (.d (.lit (.int .i64 ((k : Nat) : Int)))), (.d (.lit (.int .i64 ((wd : Nat) : Int)))), (.d (.lit (.bool false))), (.d (.lit (.bool false))), (.d (.lit (.int .i64 ((wd : Nat) : Int)))), (.d (.lit (.bool false))), (.d (.lit (.bool false))), (.d (.lit (.int .i64 ((n : Nat) : Int)))), (.d (.lit (.bool false))), (.d (.lit (.int .i64 ((k : Nat) : Int)))), (.d (.lit (.int .i64 ((wd : Nat) : Int)))), (.d (.lit (.bool true))), .top, .top, (.d (.lit (.int .i64 ((n / 256 ^ k : Nat) : Int)))), (.d (.lit (.int .i64 (((n / 256 ^ k) % 256 : Nat) : Int)))), (.d (.lit (.int .u8 (((UInt8.ofNat (n / 256 ^ k % 256)).toNat : Nat) : Int)))), (.own 1), (.own 0), (.own 2), .top, .top, (.tup []), (.tup []), (.tup []), (.tup []), (.tup []), (.tup []), (.tup [])], [(.arr 5 1 ((beb k n).length) (bytesD (beb k n))), .gone, (.arr 5 1 ((beb (k + 1) n).length) (bytesD (beb (k + 1) n)))], 0⟩) (by kernel_rfl) ?_
    refine Walk.nil ?_
    refine Then.normal ?_
    refine AWP.text ?_
    refine Walk.yes (val := (.d (.lit (.int .i64 ((n / 256 ^ k : Nat) : Int))))) (bl := []) (by kernel_rfl) ((op_move rfl).cast (by kernel_rfl)) ?_
    refine Walk.yes (val := (.d (.lit (.int .i64 ((n / 256 ^ (k + 1) : Nat) : Int))))) (bl := []) (by kernel_rfl) (((op_bin rfl (a1 := (.int .i64 ((n / 256 ^ k : Nat) : Int))) (a2 := (.int .i64 256)) (by kernel_rfl) (by kernel_rfl) (fun _ => hb_quo (by decide)))).cast (lit_quo (by omega) (by omega) (by decide) (by rw [Nat.pow_succ, ← Nat.div_div_eq_div_mul]; omega))) ?_
    refine Walk.yes (val := (.d (.lit (.int .i64 ((n / 256 ^ (k + 1) : Nat) : Int))))) (bl := []) (by kernel_rfl) ((op_move rfl).cast (by kernel_rfl)) ?_
    refine Walk.to_ (st' := ⟨[(.d (.sl l.length (bytesD l))), (.d (.lit (.int .i64 ((wd : Nat) : Int)))), (.d (.lit (.int .i64 ((n / 256 ^ (k + 1) : Nat) : Int)))), (.tup []), (.tup []), (.tup []), (.d .nil), (.d (.lit (.int .i64 0))), (.own 2), (.d (.lit (.int .i64 ((k : Nat) : Int)))), (.d (.lit (.int .i64 ((wd : Nat) : Int)))), (.d (.lit (.bool false))), (.d (.lit (.bool false))), (.d (.lit (.int .i64 ((wd : Nat) : Int)))), (.d (.lit (.bool false))), (.d (.lit (.bool false))), (.d (.lit (.int .i64 ((n : Nat) : Int)))), (.d (.lit (.bool false))), (.d (.lit (.int .i64 ((k : Nat) : Int)))), (.d (.lit (.int .i64 ((wd : Nat) : Int)))), (.d (.lit (.bool true))), .top, .top, (.d (.lit (.int .i64 ((n / 256 ^ k : Nat) : Int)))), (.d (.lit (.int .i64 (((n / 256 ^ k) % 256 : Nat) : Int)))), (.d (.lit (.int .u8 (((UInt8.ofNat (n / 256 ^ k % 256)).toNat : Nat) : Int)))), (.own 1), (.own 0), (.own 2), (.d (.lit (.int .i64 ((n / 256 ^ k : Nat) : Int)))), (.d (.lit (.int .i64 ((n / 256 ^ (k + 1) : Nat) : Int)))), (.tup []), (.tup []), (.tup []), (.tup []), (.tup []), (.tup []), (.tup [])], [(.arr 5 1 ((beb k n).length) (bytesD (beb k n))), .gone, (.arr 5 1 ((beb (k + 1) n).length) (bytesD (beb (k + 1) n)))], 0⟩) (by kernel_rfl) ?_
    refine Walk.nil ?_
    refine InBlock.normal ?_
    refine Then.normal ?_
    refine AWP.text ?_
    refine Walk.yes (val := (.d (.lit (.int .i64 ((k : Nat) : Int))))) (bl := []) (by kernel_rfl) ((op_move rfl).cast (by kernel_rfl)) ?_
    refine Walk.yes (val := (.d (.lit (.int .i64 ((k + 1 : Nat) : Int))))) (bl := []) (by kernel_rfl) (((op_bin rfl (a1 := (.int .i64 ((k : Nat) : Int))) (a2 := (.int .i64 1)) (by kernel_rfl) (by kernel_rfl) (fun _ => hb_add))).cast (lit_i64 (by first | rfl | omega | (simp; done)) (by omega) (by omega))) ?_
    refine Walk.yes (val := (.d (.lit (.int .i64 ((k + 1 : Nat) : Int))))) (bl := []) (by kernel_rfl) ((op_move rfl).cast (by kernel_rfl)) ?_
    refine Walk.to_ (st' := ⟨[(.d (.sl l.length (bytesD l))), (.d (.lit (.int .i64 ((wd : Nat) : Int)))), (.d (.lit (.int .i64 ((n / 256 ^ (k + 1) : Nat) : Int)))), (.tup []), (.tup []), (.tup []), (.d .nil), (.d (.lit (.int .i64 0))), (.own 2), (.d (.lit (.int .i64 ((k + 1 : Nat) : Int)))), (.d (.lit (.int .i64 ((wd : Nat) : Int)))), (.d (.lit (.bool false))), (.d (.lit (.bool false))), (.d (.lit (.int .i64 ((wd : Nat) : Int)))), (.d (.lit (.bool false))), (.d (.lit (.bool false))), (.d (.lit (.int .i64 ((n : Nat) : Int)))), (.d (.lit (.bool false))), (.d (.lit (.int .i64 ((k : Nat) : Int)))), (.d (.lit (.int .i64 ((wd : Nat) : Int)))), (.d (.lit (.bool true))), (.d (.lit (.int .i64 ((k : Nat) : Int)))), (.d (.lit (.int .i64 ((k + 1 : Nat) : Int)))), (.d (.lit (.int .i64 ((n / 256 ^ k : Nat) : Int)))), (.d (.lit (.int .i64 (((n / 256 ^ k) % 256 : Nat) : Int)))), (.d (.lit (.int .u8 (((UInt8.ofNat (n / 256 ^ k % 256)).toNat : Nat) : Int)))), (.own 1), (.own 0), (.own 2), (.d (.lit (.int .i64 ((n / 256 ^ k : Nat) : Int)))), (.d (.lit (.int .i64 ((n / 256 ^ (k + 1) : Nat) : Int)))), (.tup []), (.tup []), (.tup []), (.tup []), (.tup []), (.tup []), (.tup [])], [(.arr 5 1 ((beb k n).length) (bytesD (beb k n))), .gone, (.arr 5 1 ((beb (k + 1) n).length) (bytesD (beb (k + 1) n)))], 0⟩) (by kernel_rfl) ?_
    refine Walk.nil ?_
    refine RoundK.normal ?_
    exact Rounds.weak (Weak.to' (st' := ⟨[(.d (.sl l.length (bytesD l))), (.d (.lit (.int .i64 ((wd : Nat) : Int)))), (.d (.lit (.int .i64 ((n / 256 ^ (k + 1) : Nat) : Int)))), (.tup []), (.tup []), (.tup []), (.d .nil), (.d (.lit (.int .i64 0))), (.own 0), (.d (.lit (.int .i64 (((k + 1) : Nat) : Int)))), (.d (.lit (.int .i64 ((wd : Nat) : Int)))), (.d (.lit (.bool false))), (.d (.lit (.bool false))), (.d (.lit (.int .i64 ((wd : Nat) : Int)))), (.d (.lit (.bool false))), (.d (.lit (.bool false))), (.d (.lit (.int .i64 ((n : Nat) : Int)))), (.d (.lit (.bool false))), .top, .top, .top, .top, .top, .top, .top, .top, .top, .top, .top, .top, .top, (.tup []), (.tup []), (.tup []), (.tup []), (.tup []), (.tup []), (.tup [])], [(.arr 5 1 ((beb (k + 1) n).length) (bytesD (beb (k + 1) n)))], 0⟩) [2] rfl (by kernel_rfl) rfl ⟨Nat.le_of_ble_eq_true rfl, rfl⟩ (⟨by first | rfl | exact ren_arr (by simp) (by simp [flatD_append]), trivial⟩) (⟨.inr (by kernel_rfl), .inr (by kernel_rfl), .inr (by kernel_rfl), .inr (by kernel_rfl), .inr (by kernel_rfl), .inr (by kernel_rfl), .inr (by kernel_rfl), .inr (by kernel_rfl), .inr (by first | rfl | exact ren_int (by first | rfl | omega | (simp; done)) | exact ren_eq (by simp)), .inr (by first | rfl | exact ren_int (by first | rfl | omega | (simp; done)) | exact ren_eq (by simp)), .inr (by kernel_rfl), .inr (by kernel_rfl), .inr (by kernel_rfl), .inr (by kernel_rfl), .inr (by kernel_rfl), .inr (by kernel_rfl), .inr (by kernel_rfl), .inr (by kernel_rfl), .inl rfl, .inl rfl, .inl rfl, .inl rfl, .inl rfl, .inl rfl, .inl rfl, .inl rfl, .inl rfl, .inl rfl, .inl rfl, .inl rfl, .inl rfl, .inr (by kernel_rfl), .inr (by kernel_rfl), .inr (by kernel_rfl), .inr (by kernel_rfl), .inr (by kernel_rfl), .inr (by kernel_rfl), .inr (by kernel_rfl), trivial⟩)) (ih_1 (k + 1) (by omega) (by first | omega | (dsimp only; omega)))
  · refine Walk.yes (val := (.d (.lit (.bool false)))) (bl := []) (by kernel_rfl) (((op_bin rfl (a1 := (.int .i64 ((k : Nat) : Int))) (a2 := (.int .i64 ((wd : Nat) : Int))) (by kernel_rfl) (by kernel_rfl) (fun _ => hb_lss))).cast (lit_F (by have := (h1); omega))) ?_
    refine Walk.to_ (st' := ⟨[(.d (.sl l.length (bytesD l))), (.d (.lit (.int .i64 ((wd : Nat) : Int)))), (.d (.lit (.int .i64 ((n / 256 ^ k : Nat) : Int)))), (.tup []), (.tup []), (.tup []), (.d .nil), (.d (.lit (.int .i64 0))), (.own 0), (.d (.lit (.int .i64 ((k : Nat) : Int)))), (.d (.lit (.int .i64 ((wd : Nat) : Int)))), (.d (.lit (.bool false))), (.d (.lit (.bool false))), (.d (.lit (.int .i64 ((wd : Nat) : Int)))), (.d (.lit (.bool false))), (.d (.lit (.bool false))), (.d (.lit (.int .i64 ((n : Nat) : Int)))), (.d (.lit (.bool false))), (.d (.lit (.int .i64 ((k : Nat) : Int)))), (.d (.lit (.int .i64 ((wd : Nat) : Int)))), (.d (.lit (.bool false))), .top, .top, .top, .top, .top, .top, .top, .top, .top, .top, (.tup []), (.tup []), (.tup []), (.tup []), (.tup []), (.tup []), (.tup [])], [(.arr 5 1 ((beb k n).length) (bytesD (beb k n)))], 0⟩) (by kernel_rfl) ?_
    refine Walk.nil ?_
    refine Then.normal ?_
    refine AWP.if_ false (by kernel_rfl) ?_
    refine AWP.exit ?_
    refine Then.exit ?_
    refine RoundK.exit ?_
    refine InBlock.same ?_
    refine Then.normal ?_
    refine AWP.seq ?_
    refine AWP.seq ?_
    refine AWP.text ?_
    refine Walk.yes (val := (.d (.lit (.int .i64 ((n / 256 ^ k : Nat) : Int))))) (bl := []) (by kernel_rfl) ((op_move rfl).cast (by kernel_rfl)) ?_
    refine Walk.yes (val := (.d (.lit (.bool true)))) (bl := []) (by kernel_rfl) (((op_bin rfl (a1 := (.int .i64 ((n / 256 ^ k : Nat) : Int))) (a2 := (.int .i64 0)) (by kernel_rfl) (by kernel_rfl) (fun _ => hb_gtr))).cast (lit_T (by have hk : k = wd := (by omega); subst hk; omega))) ?_
    refine Walk.to_ (st' := ⟨[(.d (.sl l.length (bytesD l))), (.d (.lit (.int .i64 ((wd : Nat) : Int)))), (.d (.lit (.int .i64 ((n / 256 ^ k : Nat) : Int)))), (.tup []), (.tup []), (.tup []), (.d .nil), (.d (.lit (.int .i64 0))), (.own 0), (.d (.lit (.int .i64 ((k : Nat) : Int)))), (.d (.lit (.int .i64 ((wd : Nat) : Int)))), (.d (.lit (.bool false))), (.d (.lit (.bool false))), (.d (.lit (.int .i64 ((wd : Nat) : Int)))), (.d (.lit (.bool false))), (.d (.lit (.bool false))), (.d (.lit (.int .i64 ((n : Nat) : Int)))), (.d (.lit (.bool false))), (.d (.lit (.int .i64 ((k : Nat) : Int)))), (.d (.lit (.int .i64 ((wd : Nat) : Int)))), (.d (.lit (.bool false))), .top, .top, .top, .top, .top, .top, .top, .top, .top, .top, (.d (.lit (.int .i64 ((n / 256 ^ k : Nat) : Int)))), (.d (.lit (.bool true))), (.tup []), (.tup []), (.tup []), (.tup []), (.tup [])], [(.arr 5 1 ((beb k n).length) (bytesD (beb k n)))], 0⟩) (by kernel_rfl) ?_
    refine Walk.nil ?_
    refine Then.normal ?_
    refine AWP.if_ true (by kernel_rfl) ?_
    refine AWP.seq ?_
    refine AWP.text ?_
    refine Walk.yes (val := (.d .nil)) (bl := []) (by kernel_rfl) ((op_move rfl).cast (by kernel_rfl)) ?_
    refine Walk.yes (val := (.d (.lit (.int .i64 8)))) (bl := []) (by kernel_rfl) ((op_move rfl).cast (by kernel_rfl)) ?_
    refine Walk.to_ (st' := ⟨[(.d (.sl l.length (bytesD l))), (.d (.lit (.int .i64 ((wd : Nat) : Int)))), (.d (.lit (.int .i64 ((n / 256 ^ k : Nat) : Int)))), (.tup []), (.tup []), (.tup []), (.d .nil), (.d (.lit (.int .i64 8))), (.own 0), (.d (.lit (.int .i64 ((k : Nat) : Int)))), (.d (.lit (.int .i64 ((wd : Nat) : Int)))), (.d (.lit (.bool false))), (.d (.lit (.bool false))), (.d (.lit (.int .i64 ((wd : Nat) : Int)))), (.d (.lit (.bool false))), (.d (.lit (.bool false))), (.d (.lit (.int .i64 ((n : Nat) : Int)))), (.d (.lit (.bool false))), (.d (.lit (.int .i64 ((k : Nat) : Int)))), (.d (.lit (.int .i64 ((wd : Nat) : Int)))), (.d (.lit (.bool false))), .top, .top, .top, .top, .top, .top, .top, .top, .top, .top, (.d (.lit (.int .i64 ((n / 256 ^ k : Nat) : Int)))), (.d (.lit (.bool true))), (.tup []), (.tup []), (.tup []), (.tup []), (.tup [])], [(.arr 5 1 ((beb k n).length) (bytesD (beb k n)))], 0⟩) (by kernel_rfl) ?_
    refine Walk.nil ?_
    refine Then.normal ?_
    refine AWP.ret ?_
    refine Then.ret ?_
    exact ret_intro [] [(.d .nil), (.d (.lit (.int .i64 8)))] (by kernel_rfl) (by kernel_rfl) (trivial) (by kernel_rfl) ⟨Nat.le_of_ble_eq_true rfl, rfl⟩
set_option maxRecDepth 20000 in
set_option maxHeartbeats 4000000 in
theorem rnum_ok (l : List UInt8) (wd n : Nat) (h1 : 1 ≤ wd) (h6 : wd ≤ 6) (hn : n < 9223372036854775808) (hb : n / 256 ^ wd = 0) (hl : l.length ≤ 900000000) : GCall Try.prog 9 [(.d (.sl l.length (bytesD l))), (.d (.lit (.int .i64 ((wd : Nat) : Int)))), (.d (.lit (.int .i64 ((n : Nat) : Int))))] [] (.tup [(.own 0), (.d (.lit (.int .i64 0)))]) [(.arr 5 1 ((l ++ beb wd n).length) (bytesD (l ++ beb wd n)))] := by
  refine GCall.of_body (n := 38) (rs := [(.tmp 6), (.tmp 7)]) Try.func9 rfl rfl rfl ?_
  refine AWP.to_ (st' := ⟨[(.d (.sl l.length (bytesD l))), (.d (.lit (.int .i64 ((wd : Nat) : Int)))), (.d (.lit (.int .i64 ((n : Nat) : Int)))), (.tup []), (.tup []), (.tup []), (.tup []), (.tup []), (.tup []), (.tup []), (.tup []), (.tup []), (.tup []), (.tup []), (.tup []), (.tup []), (.tup []), (.tup []), (.tup []), (.tup []), (.tup []), (.tup []), (.tup []), (.tup []), (.tup []), (.tup []), (.tup []), (.tup []), (.tup []), (.tup []), (.tup []), (.tup []), (.tup []), (.tup []), (.tup []), (.tup []), (.tup []), (.tup [])], [], 0⟩) (by kernel_rfl) ?_
  refine AWP.seq ?_
  refine AWP.text ?_
  refine Walk.yes (val := (.d .nil)) (bl := []) (by kernel_rfl) ((op_move rfl).cast (by kernel_rfl)) ?_
  refine Walk.yes (val := (.d (.lit (.int .i64 0)))) (bl := []) (by kernel_rfl) ((op_move rfl).cast (by kernel_rfl)) ?_
  refine Walk.to_ (st' := ⟨[(.d (.sl l.length (bytesD l))), (.d (.lit (.int .i64 ((wd : Nat) : Int)))), (.d (.lit (.int .i64 ((n : Nat) : Int)))), (.tup []), (.tup []), (.tup []), (.d .nil), (.d (.lit (.int .i64 0))), (.tup []), (.tup []), (.tup []), (.tup []), (.tup []), (.tup []), (.tup []), (.tup []), (.tup []), (.tup []), (.tup []), (.tup []), (.tup []), (.tup []), (.tup []), (.tup []), (.tup []), (.tup []), (.tup []), (.tup []), (.tup []), (.tup []), (.tup []), (.tup []), (.tup []), (.tup []), (.tup []), (.tup []), (.tup []), (.tup [])], [], 0⟩) (by kernel_rfl) ?_
  refine Walk.nil ?_
  refine Then.normal ?_
  refine AWP.seq ?_
  refine AWP.seq ?_
  refine AWP.text ?_
  refine Walk.yes (val := (.d (.lit (.int .i64 ((wd : Nat) : Int))))) (bl := []) (by kernel_rfl) ((op_move rfl).cast (by kernel_rfl)) ?_
  refine Walk.yes (val := (.d (.lit (.bool false)))) (bl := []) (by kernel_rfl) (((op_bin rfl (a1 := (.int .i64 ((wd : Nat) : Int))) (a2 := (.int .i64 1)) (by kernel_rfl) (by kernel_rfl) (fun _ => hb_lss))).cast (lit_F (by omega))) ?_
  refine Walk.yes (val := (.d (.lit (.bool false)))) (bl := []) (by kernel_rfl) ((op_move rfl).cast (by kernel_rfl)) ?_
  refine Walk.yes (val := (.d (.lit (.int .i64 ((wd : Nat) : Int))))) (bl := []) (by kernel_rfl) ((op_move rfl).cast (by kernel_rfl)) ?_
  refine Walk.yes (val := (.d (.lit (.bool false)))) (bl := []) (by kernel_rfl) (((op_bin rfl (a1 := (.int .i64 ((wd : Nat) : Int))) (a2 := (.int .i64 6)) (by kernel_rfl) (by kernel_rfl) (fun _ => hb_gtr))).cast (lit_F (by omega))) ?_
  refine Walk.yes (val := (.d (.lit (.bool false)))) (bl := []) (by kernel_rfl) ((op_pickF rfl (by kernel_rfl)).cast (by kernel_rfl)) ?_
  refine Walk.to_ (st' := ⟨[(.d (.sl l.length (bytesD l))), (.d (.lit (.int .i64 ((wd : Nat) : Int)))), (.d (.lit (.int .i64 ((n : Nat) : Int)))), (.tup []), (.tup []), (.tup []), (.d .nil), (.d (.lit (.int .i64 0))), (.tup []), (.tup []), (.d (.lit (.int .i64 ((wd : Nat) : Int)))), (.d (.lit (.bool false))), (.d (.lit (.bool false))), (.d (.lit (.int .i64 ((wd : Nat) : Int)))), (.d (.lit (.bool false))), (.d (.lit (.bool false))), (.tup []), (.tup []), (.tup []), (.tup []), (.tup []), (.tup []), (.tup []), (.tup []), (.tup []), (.tup []), (.tup []), (.tup []), (.tup []), (.tup []), (.tup []), (.tup []), (.tup []), (.tup []), (.tup []), (.tup []), (.tup []), (.tup [])], [], 0⟩) (by kernel_rfl) ?_
  refine Walk.nil ?_
  refine Then.normal ?_
  refine AWP.if_ false (by kernel_rfl) ?_
  refine AWP.skip ?_
  refine Then.normal ?_
  refine AWP.seq ?_
  refine AWP.seq ?_
  refine AWP.text ?_
  refine Walk.yes (val := (.d (.lit (.int .i64 ((n : Nat) : Int))))) (bl := []) (by kernel_rfl) ((op_move rfl).cast (by kernel_rfl)) ?_
  refine Walk.yes (val := (.d (.lit (.bool false)))) (bl := []) (by kernel_rfl) (((op_bin rfl (a1 := (.int .i64 ((n : Nat) : Int))) (a2 := (.int .i64 0)) (by kernel_rfl) (by kernel_rfl) (fun _ => hb_lss))).cast (lit_F (by omega))) ?_
  refine Walk.to_ (st' := ⟨[(.d (.sl l.length (bytesD l))), (.d (.lit (.int .i64 ((wd : Nat) : Int)))), (.d (.lit (.int .i64 ((n : Nat) : Int)))), (.tup []), (.tup []), (.tup []), (.d .nil), (.d (.lit (.int .i64 0))), (.tup []), (.tup []), (.d (.lit (.int .i64 ((wd : Nat) : Int)))), (.d (.lit (.bool false))), (.d (.lit (.bool false))), (.d (.lit (.int .i64 ((wd : Nat) : Int)))), (.d (.lit (.bool false))), (.d (.lit (.bool false))), (.d (.lit (.int .i64 ((n : Nat) : Int)))), (.d (.lit (.bool false))), (.tup []), (.tup []), (.tup []), (.tup []), (.tup []), (.tup []), (.tup []), (.tup []), (.tup []), (.tup []), (.tup []), (.tup []), (.tup []), (.tup []), (.tup []), (.tup []), (.tup []), (.tup []), (.tup []), (.tup [])], [], 0⟩) (by kernel_rfl) ?_
  refine Walk.nil ?_
  refine Then.normal ?_
  refine AWP.if_ false (by kernel_rfl) ?_
  refine AWP.skip ?_
  refine Then.normal ?_
  refine AWP.seq ?_
  refine AWP.text ?_
  refine Walk.yes (val := (.d .nil)) (bl := []) (by kernel_rfl) ((op_move rfl).cast (by kernel_rfl)) ?_
  refine Walk.to_ (st' := ⟨[(.d (.sl l.length (bytesD l))), (.d (.lit (.int .i64 ((wd : Nat) : Int)))), (.d (.lit (.int .i64 ((n : Nat) : Int)))), (.tup []), (.tup []), (.tup []), (.d .nil), (.d (.lit (.int .i64 0))), (.d .nil), (.tup []), (.d (.lit (.int .i64 ((wd : Nat) : Int)))), (.d (.lit (.bool false))), (.d (.lit (.bool false))), (.d (.lit (.int .i64 ((wd : Nat) : Int)))), (.d (.lit (.bool false))), (.d (.lit (.bool false))), (.d (.lit (.int .i64 ((n : Nat) : Int)))), (.d (.lit (.bool false))), (.tup []), (.tup []), (.tup []), (.tup []), (.tup []), (.tup []), (.tup []), (.tup []), (.tup []), (.tup []), (.tup []), (.tup []), (.tup []), (.tup []), (.tup []), (.tup []), (.tup []), (.tup []), (.tup []), (.tup [])], [], 0⟩) (by kernel_rfl) ?_
  refine Walk.nil ?_
  refine Then.normal ?_
  refine AWP.seq ?_
  refine AWP.seq ?_
  refine AWP.text ?_
  refine Walk.yes (val := (.d (.lit (.int .i64 0)))) (bl := []) (by kernel_rfl) ((op_move rfl).cast (by kernel_rfl)) ?_
  refine Walk.to_ (st' := ⟨[(.d (.sl l.length (bytesD l))), (.d (.lit (.int .i64 ((wd : Nat) : Int)))), (.d (.lit (.int .i64 ((n : Nat) : Int)))), (.tup []), (.tup []), (.tup []), (.d .nil), (.d (.lit (.int .i64 0))), (.d .nil), (.d (.lit (.int .i64 0))), (.d (.lit (.int .i64 ((wd : Nat) : Int)))), (.d (.lit (.bool false))), (.d (.lit (.bool false))), (.d (.lit (.int .i64 ((wd : Nat) : Int)))), (.d (.lit (.bool false))), (.d (.lit (.bool false))), (.d (.lit (.int .i64 ((n : Nat) : Int)))), (.d (.lit (.bool false))), (.tup []), (.tup []), (.tup []), (.tup []), (.tup []), (.tup []), (.tup []), (.tup []), (.tup []), (.tup []), (.tup []), (.tup []), (.tup []), (.tup []), (.tup []), (.tup []), (.tup []), (.tup []), (.tup []), (.tup [])], [], 0⟩) (by kernel_rfl) ?_
  refine Walk.nil ?_
  refine Then.normal ?_
  refine AWP.block ?_
  refine AWP.weak (Weak.own (st' := ⟨[(.d (.sl l.length (bytesD l))), (.d (.lit (.int .i64 ((wd : Nat) : Int)))), (.d (.lit (.int .i64 ((n : Nat) : Int)))), (.tup []), (.tup []), (.tup []), (.d .nil), (.d (.lit (.int .i64 0))), (.own 0), (.d (.lit (.int .i64 0))), (.d (.lit (.int .i64 ((wd : Nat) : Int)))), (.d (.lit (.bool false))), (.d (.lit (.bool false))), (.d (.lit (.int .i64 ((wd : Nat) : Int)))), (.d (.lit (.bool false))), (.d (.lit (.bool false))), (.d (.lit (.int .i64 ((n : Nat) : Int)))), (.d (.lit (.bool false))), (.tup []), (.tup []), (.tup []), (.tup []), (.tup []), (.tup []), (.tup []), (.tup []), (.tup []), (.tup []), (.tup []), (.tup []), (.tup []), (.tup []), (.tup []), (.tup []), (.tup []), (.tup []), (.tup []), (.tup [])], [(.arr 5 1 0 [])], 0⟩) 0 5 1 (by kernel_rfl) rfl (⟨.inl rfl, .inl rfl, .inl rfl, .inl rfl, .inl rfl, .inl rfl, .inl rfl, .inl rfl, .inr ⟨rfl, rfl⟩, .inl rfl, .inl rfl, .inl rfl, .inl rfl, .inl rfl, .inl rfl, .inl rfl, .inl rfl, .inl rfl, .inl rfl, .inl rfl, .inl rfl, .inl rfl, .inl rfl, .inl rfl, .inl rfl, .inl rfl, .inl rfl, .inl rfl, .inl rfl, .inl rfl, .inl rfl, .inl rfl, .inl rfl, .inl rfl, .inl rfl, .inl rfl, .inl rfl, .inl rfl, trivial⟩) (by kernel_rfl) (fun j hj => .inl (getD_snoc (by rfl) hj))) ?_
  refine AWP.loopI (α := Nat)
    (fun (x : Nat) => match x with | k => (⟨[(.d (.sl l.length (bytesD l))), (.d (.lit (.int .i64 ((wd : Nat) : Int)))), (.d (.lit (.int .i64 ((n / 256 ^ k : Nat) : Int)))), (.tup []), (.tup []), (.tup []), (.d .nil), (.d (.lit (.int .i64 0))), (.own 0), (.d (.lit (.int .i64 ((k : Nat) : Int)))), (.d (.lit (.int .i64 ((wd : Nat) : Int)))), (.d (.lit (.bool false))), (.d (.lit (.bool false))), (.d (.lit (.int .i64 ((wd : Nat) : Int)))), (.d (.lit (.bool false))), (.d (.lit (.bool false))), (.d (.lit (.int .i64 ((n : Nat) : Int)))), (.d (.lit (.bool false))), .top, .top, .top, .top, .top, .top, .top, .top, .top, .top, .top, .top, .top, (.tup []), (.tup []), (.tup []), (.tup []), (.tup []), (.tup []), (.tup [])], [(.arr 5 1 ((beb k n).length) (bytesD (beb k n)))], 0⟩ : St))
    (fun (x : Nat) => match x with | k => k ≤ wd)
    (fun (x : Nat) => match x with | k => wd - k)
    0
    (Weak.to' (st' := _) [0] rfl (by kernel_rfl) rfl ⟨Nat.le_of_ble_eq_true rfl, rfl⟩ (⟨by first | rfl | exact ren_arr (by simp) (by simp [flatD_append]), trivial⟩) (⟨.inr (by kernel_rfl), .inr (by kernel_rfl), .inr (ren_int (by simp)), .inr (by kernel_rfl), .inr (by kernel_rfl), .inr (by kernel_rfl), .inr (by kernel_rfl), .inr (by kernel_rfl), .inr (by kernel_rfl), .inr (by first | rfl | exact ren_int (by first | rfl | omega | (simp; done)) | exact ren_eq (by simp)), .inr (by kernel_rfl), .inr (by kernel_rfl), .inr (by kernel_rfl), .inr (by kernel_rfl), .inr (by kernel_rfl), .inr (by kernel_rfl), .inr (by kernel_rfl), .inr (by kernel_rfl), .inl rfl, .inl rfl, .inl rfl, .inl rfl, .inl rfl, .inl rfl, .inl rfl, .inl rfl, .inl rfl, .inl rfl, .inl rfl, .inl rfl, .inl rfl, .inr (by kernel_rfl), .inr (by kernel_rfl), .inr (by kernel_rfl), .inr (by kernel_rfl), .inr (by kernel_rfl), .inr (by kernel_rfl), .inr (by kernel_rfl), trivial⟩))
    (Nat.zero_le _) ?_
  rintro k n_1 hI_1 ih_1
  dsimp only at hI_1 ih_1 ⊢
  have hle : n / 256 ^ k ≤ n := Nat.div_le_self _ _
  have hge : 0 ≤ ((n / 256 ^ k : Nat) : Int) := Int.natCast_nonneg _
  refine AWP.seq ?_
  refine AWP.seq ?_
  refine AWP.text ?_
  refine Walk.yes (val := (.d (.lit (.int .i64 ((k : Nat) : Int))))) (bl := []) (by kernel_rfl) ((op_move rfl).cast (by kernel_rfl)) ?_
  refine Walk.yes (val := (.d (.lit (.int .i64 ((wd : Nat) : Int))))) (bl := []) (by kernel_rfl) ((op_move rfl).cast (by kernel_rfl)) ?_
  by_cases h1 : k < wd
  · refine Walk.yes (val := (.d (.lit (.bool true)))) (bl := []) (by kernel_rfl) (((op_bin rfl (a1 := (.int .i64 ((k : Nat) : Int))) (a2 := (.int .i64 ((wd : Nat) : Int))) (by kernel_rfl) (by kernel_rfl) (fun _ => hb_lss))).cast (lit_T (by have := (h1); omega))) ?_
    refine Walk.to_ (st' := ⟨[(.d (.sl l.length (bytesD l))), (.d (.lit (.int .i64 ((wd : Nat) : Int)))), (.d (.lit (.int .i64 ((n / 256 ^ k : Nat) : Int)))), (.tup []), (.tup []), (.tup []), (.d .nil), (.d (.lit (.int .i64 0))), (.own 0), (.d (.lit (.int .i64 ((k : Nat) : Int)))), (.d (.lit (.int .i64 ((wd : Nat) : Int)))), (.d (.lit (.bool false))), (.d (.lit (.bool false))), (.d (.lit (.int .i64 ((wd : Nat) : Int)))), (.d (.lit (.bool false))), (.d (.lit (.bool false))), (.d (.lit (.int .i64 ((n : Nat) : Int)))), (.d (.lit (.bool false))), (.d (.lit (.int .i64 ((k : Nat) : Int)))), (.d (.lit (.int .i64 ((wd : Nat) : Int)))), (.d (.lit (.bool true))), .top, .top, .top, .top, .top, .top, .top, .top, .top, .top, (.tup []), (.tup []), (.tup []), (.tup []), (.tup []), (.tup []), (.tup [])], [(.arr 5 1 ((beb k n).length) (bytesD (beb k n)))], 0⟩) (by kernel_rfl) ?_
    refine Walk.nil ?_
    refine Then.normal ?_
    refine AWP.if_ true (by kernel_rfl) ?_
    refine AWP.skip ?_
    refine Then.normal ?_
    refine AWP.seq ?_
    refine AWP.block ?_
    refine AWP.seq ?_
    refine AWP.text ?_
    refine Walk.yes (val := (.d (.lit (.int .i64 ((n / 256 ^ k : Nat) : Int))))) (bl := []) (by kernel_rfl) ((op_move rfl).cast (by kernel_rfl)) ?_
    refine Walk.yes (val := (.d (.lit (.int .i64 (((n / 256 ^ k) % 256 : Nat) : Int))))) (bl := []) (by kernel_rfl) (((op_bin rfl (a1 := (.int .i64 ((n / 256 ^ k : Nat) : Int))) (a2 := (.int .i64 256)) (by kernel_rfl) (by kernel_rfl) (fun _ => hb_rem (by decide)))).cast (lit_rem (by omega) (by omega) (by decide) (by omega))) ?_
    refine Walk.yes (val := (.d (.lit (.int .u8 (((UInt8.ofNat (n / 256 ^ k % 256)).toNat : Nat) : Int))))) (bl := []) (by kernel_rfl) ((op_convert rfl (a1 := (.int .i64 (((n / 256 ^ k) % 256 : Nat) : Int))) (by kernel_rfl) (run_conv (ds := .int .i64) (k' := .u8) (by kernel_rfl) (by kernel_rfl))).cast (lit_u8 (by rw [byte_nat]; omega))) ?_
    refine Walk.yes (val := (.own 1)) (bl := [(1, (.arr 5 1 1 [(.lit (.int .u8 (((UInt8.ofNat (n / 256 ^ k % 256)).toNat : Nat) : Int)))]))]) (by kernel_rfl) (op_buildSlice rfl (e := 5) (sz := 1) (by kernel_rfl) (zs := [(.d (.lit (.int .u8 0)))]) (by kernel_rfl) (by kernel_rfl) (by decide) (by kernel_rfl) (ys := [(.d (.lit (.int .u8 (((UInt8.ofNat (n / 256 ^ k % 256)).toNat : Nat) : Int))))]) (by kernel_rfl) (by kernel_rfl) (by kernel_rfl) (by kernel_rfl)) ?_
    refine Walk.yes (val := (.own 0)) (bl := []) (by kernel_rfl) ((op_move rfl).cast (by kernel_rfl)) ?_
    refine Walk.yes (val := (.own 2)) (bl := [(1, .gone), (2, (.arr 5 1 ((beb (k + 1) n).length) (bytesD (beb (k + 1) n))))]) (by kernel_rfl) ((op_append rfl elemOK_22 (id := 1) (by kernel_rfl) (n := 1) (xs := [(.lit (.int .u8 (((UInt8.ofNat (n / 256 ^ k % 256)).toNat : Nat) : Int)))]) (by kernel_rfl) (y := (.own 0)) (by kernel_rfl) (ds := (bytesD (beb k n))) (off := 0) (k := ((beb k n).length)) (by kernel_rfl) (es := (bytesD (beb k n))) (byt_all) (byt_len) (by simp [beb_length]; omega) (by kernel_rfl) (by decide)).castB (bl_app (by simp [beb_length]; omega) (by rfl))) ?_
    refine Walk.yes (val := (.own 2)) (bl := []) (by kernel_rfl) ((op_move rfl).cast (by kernel_rfl)) ?_
    refine Walk.to_ (st' := ⟨[(.d (.sl l.length (bytesD l))), (.d (.lit (.int .i64 ((wd : Nat) : Int)))), (.d (.lit (.int .i64 ((n / 256 ^ k : Nat) : Int)))), (.tup []), (.tup []), (.tup []), (.d .nil), (.d (.lit (.int .i64 0))), (.own 2), (.d (.lit (.int .i64 ((k : Nat) : Int)))), (.d (.lit (.int .i64 ((wd : Nat) : Int)))), (.d (.lit (.bool false))), (.d (.lit (.bool false))), (.d (.lit (.int .i64 ((wd : Nat) : Int)))), (.d (.lit (.bool false))), (.d (.lit (.bool false))), (.d (.lit (.int .i64 ((n : Nat) : Int)))), (.d (.lit (.bool false))), (.d (.lit (.int .i64 ((k : Nat) : Int)))), (.d (.lit (.int .i64 ((wd : Nat) : Int)))), (.d (.lit (.bool true))), .top, .top, (.d (.lit (.int .i64 ((n / 256 ^ k : Nat) : Int)))), (.d (.lit (.int .i64 (((n / 256 ^ k) % 256 : Nat) : Int)))), (.d (.lit (.int .u8 (((UInt8.ofNat (n / 256 ^ k % 256)).toNat : Nat) : Int)))), (.own 1), (.own 0), (.own 2), .top, .top, (.tup []), (.tup []), (.tup []), (.tup []), (.tup []), (.tup []), (.tup [])], [(.arr 5 1 ((beb k n).length) (bytesD (beb k n))), .gone, (.arr 5 1 ((beb (k + 1) n).length) (bytesD (beb (k + 1) n)))], 0⟩) (by kernel_rfl) ?_
    refine Walk.nil ?_
    refine Then.normal ?_
    refine AWP.text ?_
    refine Walk.yes (val := (.d (.lit (.int .i64 ((n / 256 ^ k : Nat) : Int))))) (bl := []) (by kernel_rfl) ((op_move rfl).cast (by kernel_rfl)) ?_
    refine Walk.yes (val := (.d (.lit (.int .i64 ((n / 256 ^ (k + 1) : Nat) : Int))))) (bl := []) (by kernel_rfl) (((op_bin rfl (a1 := (.int .i64 ((n / 256 ^ k : Nat) : Int))) (a2 := (.int .i64 256)) (by kernel_rfl) (by kernel_rfl) (fun _ => hb_quo (by decide)))).cast (lit_quo (by omega) (by omega) (by decide) (by rw [Nat.pow_succ, ← Nat.div_div_eq_div_mul]; omega))) ?_
    refine Walk.yes (val := (.d (.lit (.int .i64 ((n / 256 ^ (k + 1) : Nat) : Int))))) (bl := []) (by kernel_rfl) ((op_move rfl).cast (by kernel_rfl)) ?_
    refine Walk.to_ (st' := ⟨[(.d (.sl l.length (bytesD l))), (.d (.lit (.int .i64 ((wd : Nat) : Int)))), (.d (.lit (.int .i64 ((n / 256 ^ (k + 1) : Nat) : Int)))), (.tup []), (.tup []), (.tup []), (.d .nil), (.d (.lit (.int .i64 0))), (.own 2), (.d (.lit (.int .i64 ((k : Nat) : Int)))), (.d (.lit (.int .i64 ((wd : Nat) : Int)))), (.d (.lit (.bool false))), (.d (.lit (.bool false))), (.d (.lit (.int .i64 ((wd : Nat) : Int)))), (.d (.lit (.bool false))), (.d (.lit (.bool false))), (.d (.lit (.int .i64 ((n : Nat) : Int)))), (.d (.lit (.bool false))), (.d (.lit (.int .i64 ((k : Nat) : Int)))), (.d (.lit (.int .i64 ((wd : Nat) : Int)))), (.d (.lit (.bool true))), .top, .top, (.d (.lit (.int .i64 ((n / 256 ^ k : Nat) : Int)))), (.d (.lit (.int .i64 (((n / 256 ^ k) % 256 : Nat) : Int)))), (.d (.lit (.int .u8 (((UInt8.ofNat (n / 256 ^ k % 256)).toNat : Nat) : Int)))), (.own 1), (.own 0), (.own 2), (.d (.lit (.int .i64 ((n / 256 ^ k : Nat) : Int)))), (.d (.lit (.int .i64 ((n / 256 ^ (k + 1) : Nat) : Int)))), (.tup []), (.tup []), (.tup []), (.tup []), (.tup []), (.tup []), (.tup [])], [(.arr 5 1 ((beb k n).length) (bytesD (beb k n))), .gone, (.arr 5 1 ((beb (k + 1) n).length) (bytesD (beb (k + 1) n)))], 0⟩) (by kernel_rfl) ?_
    refine Walk.nil ?_
    refine InBlock.normal ?_
    refine Then.normal ?_
    refine AWP.text ?_
    refine Walk.yes (val := (.d (.lit (.int .i64 ((k : Nat) : Int))))) (bl := []) (by kernel_rfl) ((op_move rfl).cast (by kernel_rfl)) ?_
    refine Walk.yes (val := (.d (.lit (.int .i64 ((k + 1 : Nat) : Int))))) (bl := []) (by kernel_rfl) (((op_bin rfl (a1 := (.int .i64 ((k : Nat) : Int))) (a2 := (.int .i64 1)) (by kernel_rfl) (by kernel_rfl) (fun _ => hb_add))).cast (lit_i64 (by first | rfl | omega | (simp; done)) (by omega) (by omega))) ?_
    refine Walk.yes (val := (.d (.lit (.int .i64 ((k + 1 : Nat) : Int))))) (bl := []) (by kernel_rfl) ((op_move rfl).cast (by kernel_rfl)) ?_
    refine Walk.to_ (st' := ⟨[(.d (.sl l.length (bytesD l))), (.d (.lit (.int .i64 ((wd : Nat) : Int)))), (.d (.lit (.int .i64 ((n / 256 ^ (k + 1) : Nat) : Int)))), (.tup []), (.tup []), (.tup []), (.d .nil), (.d (.lit (.int .i64 0))), (.own 2), (.d (.lit (.int .i64 ((k + 1 : Nat) : Int)))), (.d (.lit (.int .i64 ((wd : Nat) : Int)))), (.d (.lit (.bool false))), (.d (.lit (.bool false))), (.d (.lit (.int .i64 ((wd : Nat) : Int)))), (.d (.lit (.bool false))), (.d (.lit (.bool false))), (.d (.lit (.int .i64 ((n : Nat) : Int)))), (.d (.lit (.bool false))), (.d (.lit (.int .i64 ((k : Nat) : Int)))), (.d (.lit (.int .i64 ((wd : Nat) : Int)))), (.d (.lit (.bool true))), (.d (.lit (.int .i64 ((k : Nat) : Int)))), (.d (.lit (.int .i64 ((k + 1 : Nat) : Int)))), (.d (.lit (.int .i64 ((n / 256 ^ k : Nat) : Int)))), (.d (.lit (.int .i64 (((n / 256 ^ k) % 256 : Nat) : Int)))), (.d (.lit (.int .u8 (((UInt8.ofNat (n / 256 ^ k % 256)).toNat : Nat) : Int)))), (.own 1), (.own 0), (.own 2), (.d (.lit (.int .i64 ((n / 256 ^ k : Nat) : Int)))), (.d (.lit (.int .i64 ((n / 256 ^ (k + 1) : Nat) : Int)))), (.tup []), (.tup []), (.tup []), (.tup []), (.tup []), (.tup []), (.tup [])], [(.arr 5 1 ((beb k n).length) (bytesD (beb k n))), .gone, (.arr 5 1 ((beb (k + 1) n).length) (bytesD (beb (k + 1) n)))], 0⟩) (by kernel_rfl) ?_
    refine Walk.nil ?_
    refine RoundK.normal ?_
    exact Rounds.weak (Weak.to' (st' := ⟨[(.d (.sl l.length (bytesD l))), (.d (.lit (.int .i64 ((wd : Nat) : Int)))), (.d (.lit (.int .i64 ((n / 256 ^ (k + 1) : Nat) : Int)))), (.tup []), (.tup []), (.tup []), (.d .nil), (.d (.lit (.int .i64 0))), (.own 0), (.d (.lit (.int .i64 (((k + 1) : Nat) : Int)))), (.d (.lit (.int .i64 ((wd : Nat) : Int)))), (.d (.lit (.bool false))), (.d (.lit (.bool false))), (.d (.lit (.int .i64 ((wd : Nat) : Int)))), (.d (.lit (.bool false))), (.d (.lit (.bool false))), (.d (.lit (.int .i64 ((n : Nat) : Int)))), (.d (.lit (.bool false))), .top, .top, .top, .top, .top, .top, .top, .top, .top, .top, .top, .top, .top, (.tup []), (.tup []), (.tup []), (.tup []), (.tup []), (.tup []), (.tup [])], [(.arr 5 1 ((beb (k + 1) n).length) (bytesD (beb (k + 1) n)))], 0⟩) [2] rfl (by kernel_rfl) rfl ⟨Nat.le_of_ble_eq_true rfl, rfl⟩ (⟨by first | rfl | exact ren_arr (by simp) (by simp [flatD_append]), trivial⟩) (⟨.inr (by kernel_rfl), .inr (by kernel_rfl), .inr (by kernel_rfl), .inr (by kernel_rfl), .inr (by kernel_rfl), .inr (by kernel_rfl), .inr (by kernel_rfl), .inr (by kernel_rfl), .inr (by first | rfl | exact ren_int (by first | rfl | omega | (simp; done)) | exact ren_eq (by simp)), .inr (by first | rfl | exact ren_int (by first | rfl | omega | (simp; done)) | exact ren_eq (by simp)), .inr (by kernel_rfl), .inr (by kernel_rfl), .inr (by kernel_rfl), .inr (by kernel_rfl), .inr (by kernel_rfl), .inr (by kernel_rfl), .inr (by kernel_rfl), .inr (by kernel_rfl), .inl rfl, .inl rfl, .inl rfl, .inl rfl, .inl rfl, .inl rfl, .inl rfl, .inl rfl, .inl rfl, .inl rfl, .inl rfl, .inl rfl, .inl rfl, .inr (by kernel_rfl), .inr (by kernel_rfl), .inr (by kernel_rfl), .inr (by kernel_rfl), .inr (by kernel_rfl), .inr (by kernel_rfl), .inr (by kernel_rfl), trivial⟩)) (ih_1 (k + 1) (by omega) (by first | omega | (dsimp only; omega)))
  · refine Walk.yes (val := (.d (.lit (.bool false)))) (bl := []) (by kernel_rfl) (((op_bin rfl (a1 := (.int .i64 ((k : Nat) : Int))) (a2 := (.int .i64 ((wd : Nat) : Int))) (by kernel_rfl) (by kernel_rfl) (fun _ => hb_lss))).cast (lit_F (by have := (h1); omega))) ?_
    refine Walk.to_ (st' := ⟨[(.d (.sl l.length (bytesD l))), (.d (.lit (.int .i64 ((wd : Nat) : Int)))), (.d (.lit (.int .i64 ((n / 256 ^ k : Nat) : Int)))), (.tup []), (.tup []), (.tup []), (.d .nil), (.d (.lit (.int .i64 0))), (.own 0), (.d (.lit (.int .i64 ((k : Nat) : Int)))), (.d (.lit (.int .i64 ((wd : Nat) : Int)))), (.d (.lit (.bool false))), (.d (.lit (.bool false))), (.d (.lit (.int .i64 ((wd : Nat) : Int)))), (.d (.lit (.bool false))), (.d (.lit (.bool false))), (.d (.lit (.int .i64 ((n : Nat) : Int)))), (.d (.lit (.bool false))), (.d (.lit (.int .i64 ((k : Nat) : Int)))), (.d (.lit (.int .i64 ((wd : Nat) : Int)))), (.d (.lit (.bool false))), .top, .top, .top, .top, .top, .top, .top, .top, .top, .top, (.tup []), (.tup []), (.tup []), (.tup []), (.tup []), (.tup []), (.tup [])], [(.arr 5 1 ((beb k n).length) (bytesD (beb k n)))], 0⟩) (by kernel_rfl) ?_
    refine Walk.nil ?_
    refine Then.normal ?_
    refine AWP.if_ false (by kernel_rfl) ?_
    refine AWP.exit ?_
    refine Then.exit ?_
    refine RoundK.exit ?_
    refine InBlock.same ?_
    refine Then.normal ?_
    refine AWP.seq ?_
    refine AWP.seq ?_
    refine AWP.text ?_
    refine Walk.yes (val := (.d (.lit (.int .i64 ((n / 256 ^ k : Nat) : Int))))) (bl := []) (by kernel_rfl) ((op_move rfl).cast (by kernel_rfl)) ?_
    refine Walk.yes (val := (.d (.lit (.bool false)))) (bl := []) (by kernel_rfl) (((op_bin rfl (a1 := (.int .i64 ((n / 256 ^ k : Nat) : Int))) (a2 := (.int .i64 0)) (by kernel_rfl) (by kernel_rfl) (fun _ => hb_gtr))).cast (lit_F (by have hk : k = wd := (by omega); subst hk; omega))) ?_
    refine Walk.to_ (st' := ⟨[(.d (.sl l.length (bytesD l))), (.d (.lit (.int .i64 ((wd : Nat) : Int)))), (.d (.lit (.int .i64 ((n / 256 ^ k : Nat) : Int)))), (.tup []), (.tup []), (.tup []), (.d .nil), (.d (.lit (.int .i64 0))), (.own 0), (.d (.lit (.int .i64 ((k : Nat) : Int)))), (.d (.lit (.int .i64 ((wd : Nat) : Int)))), (.d (.lit (.bool false))), (.d (.lit (.bool false))), (.d (.lit (.int .i64 ((wd : Nat) : Int)))), (.d (.lit (.bool false))), (.d (.lit (.bool false))), (.d (.lit (.int .i64 ((n : Nat) : Int)))), (.d (.lit (.bool false))), (.d (.lit (.int .i64 ((k : Nat) : Int)))), (.d (.lit (.int .i64 ((wd : Nat) : Int)))), (.d (.lit (.bool false))), .top, .top, .top, .top, .top, .top, .top, .top, .top, .top, (.d (.lit (.int .i64 ((n / 256 ^ k : Nat) : Int)))), (.d (.lit (.bool false))), (.tup []), (.tup []), (.tup []), (.tup []), (.tup [])], [(.arr 5 1 ((beb k n).length) (bytesD (beb k n)))], 0⟩) (by kernel_rfl) ?_
    refine Walk.nil ?_
    refine Then.normal ?_
    refine AWP.if_ false (by kernel_rfl) ?_
    refine AWP.skip ?_
    refine Then.normal ?_
    refine AWP.seq ?_
    refine AWP.text ?_
    refine Walk.yes (val := (.own 1)) (bl := [(1, (.arr 5 1 0 []))]) (by kernel_rfl) (op_buildSlice rfl (e := 5) (sz := 1) (by kernel_rfl) (zs := [(.d (.lit (.int .u8 0)))]) (by kernel_rfl) (by kernel_rfl) (by decide) (by kernel_rfl) (ys := []) (by kernel_rfl) (by kernel_rfl) (by kernel_rfl) (by kernel_rfl)) ?_
    refine Walk.yes (val := (.d (.sl l.length (bytesD l)))) (bl := []) (by kernel_rfl) ((op_move rfl).cast (by kernel_rfl)) ?_
    refine Walk.yes (val := (.own 2)) (bl := [(1, .gone), (2, (.arr 5 1 l.length (bytesD l)))]) (by kernel_rfl) ((op_append rfl elemOK_22 (id := 1) (by kernel_rfl) (n := 0) (xs := []) (by kernel_rfl) (y := (.d (.sl l.length (bytesD l)))) (by kernel_rfl) (ds := (bytesD l)) (off := 0) (k := l.length) (by kernel_rfl) (es := (bytesD l)) (byt_all) (byt_len) (by first | omega | (simp; omega)) (by kernel_rfl) (by decide)).castB (bl_app (by simp) (List.nil_append _))) ?_
    refine Walk.yes (val := (.own 0)) (bl := []) (by kernel_rfl) ((op_move rfl).cast (by kernel_rfl)) ?_
    refine Walk.yes (val := (.own 3)) (bl := [(2, .gone), (3, (.arr 5 1 ((l ++ (beb k n)).length) (bytesD (l ++ (beb k n)))))]) (by kernel_rfl) ((op_append rfl elemOK_22 (id := 2) (by kernel_rfl) (n := l.length) (xs := (bytesD l)) (by kernel_rfl) (y := (.own 0)) (by kernel_rfl) (ds := (bytesD (beb k n))) (off := 0) (k := ((beb k n).length)) (by kernel_rfl) (es := (bytesD (beb k n))) (byt_all) (byt_len) (by simp [beb_length]; omega) (by kernel_rfl) (by decide)).castB (bl_app (by simp) ((bytesD_append _ _).symm))) ?_
    refine Walk.yes (val := (.own 3)) (bl := []) (by kernel_rfl) ((op_move rfl).cast (by kernel_rfl)) ?_
    refine Walk.yes (val := (.d (.lit (.int .i64 0)))) (bl := []) (by kernel_rfl) ((op_move rfl).cast (by kernel_rfl)) ?_
    refine Walk.to_ (st' := ⟨[(.d (.sl l.length (bytesD l))), (.d (.lit (.int .i64 ((wd : Nat) : Int)))), (.d (.lit (.int .i64 ((n / 256 ^ k : Nat) : Int)))), (.tup []), (.tup []), (.tup []), (.own 3), (.d (.lit (.int .i64 0))), (.own 0), (.d (.lit (.int .i64 ((k : Nat) : Int)))), (.d (.lit (.int .i64 ((wd : Nat) : Int)))), (.d (.lit (.bool false))), (.d (.lit (.bool false))), (.d (.lit (.int .i64 ((wd : Nat) : Int)))), (.d (.lit (.bool false))), (.d (.lit (.bool false))), (.d (.lit (.int .i64 ((n : Nat) : Int)))), (.d (.lit (.bool false))), (.d (.lit (.int .i64 ((k : Nat) : Int)))), (.d (.lit (.int .i64 ((wd : Nat) : Int)))), (.d (.lit (.bool false))), .top, .top, .top, .top, .top, .top, .top, .top, .top, .top, (.d (.lit (.int .i64 ((n / 256 ^ k : Nat) : Int)))), (.d (.lit (.bool false))), (.own 1), (.d (.sl l.length (bytesD l))), (.own 2), (.own 0), (.own 3)], [(.arr 5 1 ((beb k n).length) (bytesD (beb k n))), .gone, .gone, (.arr 5 1 ((l ++ (beb k n)).length) (bytesD (l ++ (beb k n))))], 0⟩) (by kernel_rfl) ?_
    refine Walk.nil ?_
    refine Then.normal ?_
    refine AWP.ret ?_
    exact ret_intro [3] [(.own 3), (.d (.lit (.int .i64 0)))] (by kernel_rfl) (by kernel_rfl) (by have hk : k = wd := (by omega); subst hk; exact ⟨arr_ren (by simp) (by simp), trivial⟩) (by kernel_rfl) ⟨Nat.le_of_ble_eq_true rfl, rfl⟩
set_option maxRecDepth 20000 in
set_option maxHeartbeats 4000000 in
theorem rword_c (l : List UInt8) (u : Nat) (hu : u < 18446744073709551616) (hl : l.length ≤ 900000000) : GCall Try.prog 13 [(.d (.sl l.length (bytesD l))), (.d (.lit (.int .u64 ((u : Nat) : Int))))] [] (.own 0) [(.arr 5 1 ((l ++ beb 8 u).length) (bytesD (l ++ beb 8 u)))] := by
  refine GCall.of_body (n := 24) (rs := [(.tmp 4)]) Try.func13 rfl rfl rfl ?_
  refine AWP.to_ (st' := ⟨[(.d (.sl l.length (bytesD l))), (.d (.lit (.int .u64 ((u : Nat) : Int)))), (.tup []), (.tup []), (.tup []), (.tup []), (.tup []), (.tup []), (.tup []), (.tup []), (.tup []), (.tup []), (.tup []), (.tup []), (.tup []), (.tup []), (.tup []), (.tup []), (.tup []), (.tup []), (.tup []), (.tup []), (.tup []), (.tup [])], [], 0⟩) (by kernel_rfl) ?_
  refine AWP.seq ?_
  refine AWP.text ?_
  refine Walk.yes (val := (.d .nil)) (bl := []) (by kernel_rfl) ((op_move rfl).cast (by kernel_rfl)) ?_
  refine Walk.to_ (st' := ⟨[(.d (.sl l.length (bytesD l))), (.d (.lit (.int .u64 ((u : Nat) : Int)))), (.tup []), (.tup []), (.d .nil), (.tup []), (.tup []), (.tup []), (.tup []), (.tup []), (.tup []), (.tup []), (.tup []), (.tup []), (.tup []), (.tup []), (.tup []), (.tup []), (.tup []), (.tup []), (.tup []), (.tup []), (.tup []), (.tup [])], [], 0⟩) (by kernel_rfl) ?_
  refine Walk.nil ?_
  refine Then.normal ?_
  refine AWP.seq ?_
  refine AWP.text ?_
  refine Walk.yes (val := (.d .nil)) (bl := []) (by kernel_rfl) ((op_move rfl).cast (by kernel_rfl)) ?_
  refine Walk.to_ (st' := ⟨[(.d (.sl l.length (bytesD l))), (.d (.lit (.int .u64 ((u : Nat) : Int)))), (.tup []), (.tup []), (.d .nil), (.d .nil), (.tup []), (.tup []), (.tup []), (.tup []), (.tup []), (.tup []), (.tup []), (.tup []), (.tup []), (.tup []), (.tup []), (.tup []), (.tup []), (.tup []), (.tup []), (.tup []), (.tup []), (.tup [])], [], 0⟩) (by kernel_rfl) ?_
  refine Walk.nil ?_
  refine Then.normal ?_
  refine AWP.seq ?_
  refine AWP.seq ?_
  refine AWP.text ?_
  refine Walk.yes (val := (.d (.lit (.int .i64 0)))) (bl := []) (by kernel_rfl) ((op_move rfl).cast (by kernel_rfl)) ?_
  refine Walk.to_ (st' := ⟨[(.d (.sl l.length (bytesD l))), (.d (.lit (.int .u64 ((u : Nat) : Int)))), (.tup []), (.tup []), (.d .nil), (.d .nil), (.d (.lit (.int .i64 0))), (.tup []), (.tup []), (.tup []), (.tup []), (.tup []), (.tup []), (.tup []), (.tup []), (.tup []), (.tup []), (.tup []), (.tup []), (.tup []), (.tup []), (.tup []), (.tup []), (.tup [])], [], 0⟩) (by kernel_rfl) ?_
  refine Walk.nil ?_
  refine Then.normal ?_
  refine AWP.block ?_
  refine AWP.weak (Weak.own (st' := ⟨[(.d (.sl l.length (bytesD l))), (.d (.lit (.int .u64 ((u : Nat) : Int)))), (.tup []), (.tup []), (.d .nil), (.own 0), (.d (.lit (.int .i64 0))), (.tup []), (.tup []), (.tup []), (.tup []), (.tup []), (.tup []), (.tup []), (.tup []), (.tup []), (.tup []), (.tup []), (.tup []), (.tup []), (.tup []), (.tup []), (.tup []), (.tup [])], [(.arr 5 1 0 [])], 0⟩) 0 5 1 (by kernel_rfl) rfl (⟨.inl rfl, .inl rfl, .inl rfl, .inl rfl, .inl rfl, .inr ⟨rfl, rfl⟩, .inl rfl, .inl rfl, .inl rfl, .inl rfl, .inl rfl, .inl rfl, .inl rfl, .inl rfl, .inl rfl, .inl rfl, .inl rfl, .inl rfl, .inl rfl, .inl rfl, .inl rfl, .inl rfl, .inl rfl, .inl rfl, trivial⟩) (by kernel_rfl) (fun j hj => .inl (getD_snoc (by rfl) hj))) ?_
  refine AWP.loopI (α := Nat)
    (fun (x : Nat) => match x with | k => (⟨[(.d (.sl l.length (bytesD l))), (.d (.lit (.int .u64 ((u / 256 ^ k : Nat) : Int)))), (.tup []), (.tup []), (.d .nil), (.own 0), (.d (.lit (.int .i64 ((k : Nat) : Int)))), .top, .top, .top, .top, .top, .top, .top, .top, .top, .top, .top, .top, (.tup []), (.tup []), (.tup []), (.tup []), (.tup [])], [(.arr 5 1 ((beb k u).length) (bytesD (beb k u)))], 0⟩ : St))
    (fun (x : Nat) => match x with | k => k ≤ 8)
    (fun (x : Nat) => match x with | k => 8 - k)
    0
    (Weak.to' (st' := _) [0] rfl (by kernel_rfl) rfl ⟨Nat.le_of_ble_eq_true rfl, rfl⟩ (⟨by first | rfl | exact ren_arr (by simp) (by simp [flatD_append]), trivial⟩) (⟨.inr (by kernel_rfl), .inr (ren_int (by simp)), .inr (by kernel_rfl), .inr (by kernel_rfl), .inr (by kernel_rfl), .inr (by kernel_rfl), .inr (by first | rfl | exact ren_int (by first | rfl | omega | (simp; done)) | exact ren_eq (by simp)), .inl rfl, .inl rfl, .inl rfl, .inl rfl, .inl rfl, .inl rfl, .inl rfl, .inl rfl, .inl rfl, .inl rfl, .inl rfl, .inl rfl, .inr (by kernel_rfl), .inr (by kernel_rfl), .inr (by kernel_rfl), .inr (by kernel_rfl), .inr (by kernel_rfl), trivial⟩))
    (Nat.zero_le _) ?_
  rintro k n_1 hI_1 ih_1
  dsimp only at hI_1 ih_1 ⊢
  have hle : u / 256 ^ k ≤ u := Nat.div_le_self _ _
  have hge : 0 ≤ ((u / 256 ^ k : Nat) : Int) := Int.natCast_nonneg _
  refine AWP.seq ?_
  refine AWP.seq ?_
  refine AWP.text ?_
  refine Walk.yes (val := (.d (.lit (.int .i64 ((k : Nat) : Int))))) (bl := []) (by kernel_rfl) ((op_move rfl).cast (by kernel_rfl)) ?_
  by_cases h1 : k < 8
  · refine Walk.yes (val := (.d (.lit (.bool true)))) (bl := []) (by kernel_rfl) (((op_bin rfl (a1 := (.int .i64 ((k : Nat) : Int))) (a2 := (.int .i64 8)) (by kernel_rfl) (by kernel_rfl) (fun _ => hb_lss))).cast (lit_T (by have := (h1); omega))) ?_
    refine Walk.to_ (st' := ⟨[(.d (.sl l.length (bytesD l))), (.d (.lit (.int .u64 ((u / 256 ^ k : Nat) : Int)))), (.tup []), (.tup []), (.d .nil), (.own 0), (.d (.lit (.int .i64 ((k : Nat) : Int)))), (.d (.lit (.int .i64 ((k : Nat) : Int)))), (.d (.lit (.bool true))), .top, .top, .top, .top, .top, .top, .top, .top, .top, .top, (.tup []), (.tup []), (.tup []), (.tup []), (.tup [])], [(.arr 5 1 ((beb k u).length) (bytesD (beb k u)))], 0⟩) (by kernel_rfl) ?_
    refine Walk.nil ?_
    refine Then.normal ?_
    refine AWP.if_ true (by kernel_rfl) ?_
    refine AWP.skip ?_
    refine Then.normal ?_
    refine AWP.seq ?_
    refine AWP.block ?_
    refine AWP.seq ?_
    refine AWP.text ?_
    refine Walk.yes (val := (.d (.lit (.int .u64 ((u / 256 ^ k : Nat) : Int))))) (bl := []) (by kernel_rfl) ((op_move rfl).cast (by kernel_rfl)) ?_
    refine Walk.yes (val := (.d (.lit (.int .u64 ((u / 256 ^ k % 256 : Nat) : Int))))) (bl := []) (by kernel_rfl) (((op_bin rfl (a1 := (.int .u64 ((u / 256 ^ k : Nat) : Int))) (a2 := (.int .u64 256)) (by kernel_rfl) (by kernel_rfl) (fun _ => hb_rem (by decide)))).cast (lit_urem (by omega) (by omega))) ?_
    refine Walk.yes (val := (.d (.lit (.int .u8 (((UInt8.ofNat (u / 256 ^ k % 256)).toNat : Nat) : Int))))) (bl := []) (by kernel_rfl) ((op_convert rfl (a1 := (.int .u64 ((u / 256 ^ k % 256 : Nat) : Int))) (by kernel_rfl) (run_conv (ds := .int .u64) (k' := .u8) (by kernel_rfl) (by kernel_rfl))).cast (lit_u8 (by rw [byte_nat]; omega))) ?_
    refine Walk.yes (val := (.own 1)) (bl := [(1, (.arr 5 1 1 [(.lit (.int .u8 (((UInt8.ofNat (u / 256 ^ k % 256)).toNat : Nat) : Int)))]))]) (by kernel_rfl) (op_buildSlice rfl (e := 5) (sz := 1) (by kernel_rfl) (zs := [(.d (.lit (.int .u8 0)))]) (by kernel_rfl) (by kernel_rfl) (by decide) (by kernel_rfl) (ys := [(.d (.lit (.int .u8 (((UInt8.ofNat (u / 256 ^ k % 256)).toNat : Nat) : Int))))]) (by kernel_rfl) (by kernel_rfl) (by kernel_rfl) (by kernel_rfl)) ?_
    refine Walk.yes (val := (.own 0)) (bl := []) (by kernel_rfl) ((op_move rfl).cast (by kernel_rfl)) ?_
    refine Walk.yes (val := (.own 2)) (bl := [(1, .gone), (2, (.arr 5 1 ((beb (k + 1) u).length) (bytesD (beb (k + 1) u))))]) (by kernel_rfl) ((op_append rfl elemOK_22 (id := 1) (by kernel_rfl) (n := 1) (xs := [(.lit (.int .u8 (((UInt8.ofNat (u / 256 ^ k % 256)).toNat : Nat) : Int)))]) (by kernel_rfl) (y := (.own 0)) (by kernel_rfl) (ds := (bytesD (beb k u))) (off := 0) (k := ((beb k u).length)) (by kernel_rfl) (es := (bytesD (beb k u))) (byt_all) (byt_len) (by simp [beb_length]; omega) (by kernel_rfl) (by decide)).castB (bl_app (by simp [beb_length]; omega) (by rfl))) ?_
    refine Walk.yes (val := (.own 2)) (bl := []) (by kernel_rfl) ((op_move rfl).cast (by kernel_rfl)) ?_
    refine Walk.to_ (st' := ⟨[(.d (.sl l.length (bytesD l))), (.d (.lit (.int .u64 ((u / 256 ^ k : Nat) : Int)))), (.tup []), (.tup []), (.d .nil), (.own 2), (.d (.lit (.int .i64 ((k : Nat) : Int)))), (.d (.lit (.int .i64 ((k : Nat) : Int)))), (.d (.lit (.bool true))), .top, .top, (.d (.lit (.int .u64 ((u / 256 ^ k : Nat) : Int)))), (.d (.lit (.int .u64 ((u / 256 ^ k % 256 : Nat) : Int)))), (.d (.lit (.int .u8 (((UInt8.ofNat (u / 256 ^ k % 256)).toNat : Nat) : Int)))), (.own 1), (.own 0), (.own 2), .top, .top, (.tup []), (.tup []), (.tup []), (.tup []), (.tup [])], [(.arr 5 1 ((beb k u).length) (bytesD (beb k u))), .gone, (.arr 5 1 ((beb (k + 1) u).length) (bytesD (beb (k + 1) u)))], 0⟩) (by kernel_rfl) ?_
    refine Walk.nil ?_
    refine Then.normal ?_
    refine AWP.text ?_
    refine Walk.yes (val := (.d (.lit (.int .u64 ((u / 256 ^ k : Nat) : Int))))) (bl := []) (by kernel_rfl) ((op_move rfl).cast (by kernel_rfl)) ?_
    refine Walk.yes (val := (.d (.lit (.int .u64 ((u / 256 ^ (k + 1) : Nat) : Int))))) (bl := []) (by kernel_rfl) (((op_bin rfl (a1 := (.int .u64 ((u / 256 ^ k : Nat) : Int))) (a2 := (.int .u64 256)) (by kernel_rfl) (by kernel_rfl) (fun _ => hb_quo (by decide)))).cast (lit_uquo (by omega) (by omega) (by decide) (by rw [Nat.pow_succ, ← Nat.div_div_eq_div_mul]; omega))) ?_
    refine Walk.yes (val := (.d (.lit (.int .u64 ((u / 256 ^ (k + 1) : Nat) : Int))))) (bl := []) (by kernel_rfl) ((op_move rfl).cast (by kernel_rfl)) ?_
    refine Walk.to_ (st' := ⟨[(.d (.sl l.length (bytesD l))), (.d (.lit (.int .u64 ((u / 256 ^ (k + 1) : Nat) : Int)))), (.tup []), (.tup []), (.d .nil), (.own 2), (.d (.lit (.int .i64 ((k : Nat) : Int)))), (.d (.lit (.int .i64 ((k : Nat) : Int)))), (.d (.lit (.bool true))), .top, .top, (.d (.lit (.int .u64 ((u / 256 ^ k : Nat) : Int)))), (.d (.lit (.int .u64 ((u / 256 ^ k % 256 : Nat) : Int)))), (.d (.lit (.int .u8 (((UInt8.ofNat (u / 256 ^ k % 256)).toNat : Nat) : Int)))), (.own 1), (.own 0), (.own 2), (.d (.lit (.int .u64 ((u / 256 ^ k : Nat) : Int)))), (.d (.lit (.int .u64 ((u / 256 ^ (k + 1) : Nat) : Int)))), (.tup []), (.tup []), (.tup []), (.tup []), (.tup [])], [(.arr 5 1 ((beb k u).length) (bytesD (beb k u))), .gone, (.arr 5 1 ((beb (k + 1) u).length) (bytesD (beb (k + 1) u)))], 0⟩) (by kernel_rfl) ?_
    refine Walk.nil ?_
    refine InBlock.normal ?_
    refine Then.normal ?_
    refine AWP.text ?_
    refine Walk.yes (val := (.d (.lit (.int .i64 ((k : Nat) : Int))))) (bl := []) (by kernel_rfl) ((op_move rfl).cast (by kernel_rfl)) ?_
    refine Walk.yes (val := (.d (.lit (.int .i64 ((k + 1 : Nat) : Int))))) (bl := []) (by kernel_rfl) (((op_bin rfl (a1 := (.int .i64 ((k : Nat) : Int))) (a2 := (.int .i64 1)) (by kernel_rfl) (by kernel_rfl) (fun _ => hb_add))).cast (lit_i64 (by first | rfl | omega | (simp; done)) (by omega) (by omega))) ?_
    refine Walk.yes (val := (.d (.lit (.int .i64 ((k + 1 : Nat) : Int))))) (bl := []) (by kernel_rfl) ((op_move rfl).cast (by kernel_rfl)) ?_
    refine Walk.to_ (st' := ⟨[(.d (.sl l.length (bytesD l))), (.d (.lit (.int .u64 ((u / 256 ^ (k + 1) : Nat) : Int)))), (.tup []), (.tup []), (.d .nil), (.own 2), (.d (.lit (.int .i64 ((k + 1 : Nat) : Int)))), (.d (.lit (.int .i64 ((k : Nat) : Int)))), (.d (.lit (.bool true))), (.d (.lit (.int .i64 ((k : Nat) : Int)))), (.d (.lit (.int .i64 ((k + 1 : Nat) : Int)))), (.d (.lit (.int .u64 ((u / 256 ^ k : Nat) : Int)))), (.d (.lit (.int .u64 ((u / 256 ^ k % 256 : Nat) : Int)))), (.d (.lit (.int .u8 (((UInt8.ofNat (u / 256 ^ k % 256)).toNat : Nat) : Int)))), (.own 1), (.own 0), (.own 2), (.d (.lit (.int .u64 ((u / 256 ^ k : Nat) : Int)))), (.d (.lit (.int .u64 ((u / 256 ^ (k + 1) : Nat) : Int)))), (.tup []), (.tup []), (.tup []), (.tup []), (.tup [])], [(.arr 5 1 ((beb k u).length) (bytesD (beb k u))), .gone, (.arr 5 1 ((beb (k + 1) u).length) (bytesD (beb (k + 1) u)))], 0⟩) (by kernel_rfl) ?_
    refine Walk.nil ?_
    refine RoundK.normal ?_
    exact Rounds.weak (Weak.to' (st' := ⟨[(.d (.sl l.length (bytesD l))), (.d (.lit (.int .u64 ((u / 256 ^ (k + 1) : Nat) : Int)))), (.tup []), (.tup []), (.d .nil), (.own 0), (.d (.lit (.int .i64 (((k + 1) : Nat) : Int)))), .top, .top, .top, .top, .top, .top, .top, .top, .top, .top, .top, .top, (.tup []), (.tup []), (.tup []), (.tup []), (.tup [])], [(.arr 5 1 ((beb (k + 1) u).length) (bytesD (beb (k + 1) u)))], 0⟩) [2] rfl (by kernel_rfl) rfl ⟨Nat.le_of_ble_eq_true rfl, rfl⟩ (⟨by first | rfl | exact ren_arr (by simp) (by simp [flatD_append]), trivial⟩) (⟨.inr (by kernel_rfl), .inr (by kernel_rfl), .inr (by kernel_rfl), .inr (by kernel_rfl), .inr (by kernel_rfl), .inr (by first | rfl | exact ren_int (by first | rfl | omega | (simp; done)) | exact ren_eq (by simp)), .inr (by first | rfl | exact ren_int (by first | rfl | omega | (simp; done)) | exact ren_eq (by simp)), .inl rfl, .inl rfl, .inl rfl, .inl rfl, .inl rfl, .inl rfl, .inl rfl, .inl rfl, .inl rfl, .inl rfl, .inl rfl, .inl rfl, .inr (by kernel_rfl), .inr (by kernel_rfl), .inr (by kernel_rfl), .inr (by kernel_rfl), .inr (by kernel_rfl), trivial⟩)) (ih_1 (k + 1) (by omega) (by first | omega | (dsimp only; omega)))
  · refine Walk.yes (val := (.d (.lit (.bool false)))) (bl := []) (by kernel_rfl) (((op_bin rfl (a1 := (.int .i64 ((k : Nat) : Int))) (a2 := (.int .i64 8)) (by kernel_rfl) (by kernel_rfl) (fun _ => hb_lss))).cast (lit_F (by have := (h1); omega))) ?_
    refine Walk.to_ (st' := ⟨[(.d (.sl l.length (bytesD l))), (.d (.lit (.int .u64 ((u / 256 ^ k : Nat) : Int)))), (.tup []), (.tup []), (.d .nil), (.own 0), (.d (.lit (.int .i64 ((k : Nat) : Int)))), (.d (.lit (.int .i64 ((k : Nat) : Int)))), (.d (.lit (.bool false))), .top, .top, .top, .top, .top, .top, .top, .top, .top, .top, (.tup []), (.tup []), (.tup []), (.tup []), (.tup [])], [(.arr 5 1 ((beb k u).length) (bytesD (beb k u)))], 0⟩) (by kernel_rfl) ?_
    refine Walk.nil ?_
    refine Then.normal ?_
    refine AWP.if_ false (by kernel_rfl) ?_
    refine AWP.exit ?_
    refine Then.exit ?_
    refine RoundK.exit ?_
    refine InBlock.same ?_
    refine Then.normal ?_
    refine AWP.seq ?_
    refine AWP.text ?_
    refine Walk.yes (val := (.own 1)) (bl := [(1, (.arr 5 1 0 []))]) (by kernel_rfl) (op_buildSlice rfl (e := 5) (sz := 1) (by kernel_rfl) (zs := [(.d (.lit (.int .u8 0)))]) (by kernel_rfl) (by kernel_rfl) (by decide) (by kernel_rfl) (ys := []) (by kernel_rfl) (by kernel_rfl) (by kernel_rfl) (by kernel_rfl)) ?_
    refine Walk.yes (val := (.d (.sl l.length (bytesD l)))) (bl := []) (by kernel_rfl) ((op_move rfl).cast (by kernel_rfl)) ?_
    refine Walk.yes (val := (.own 2)) (bl := [(1, .gone), (2, (.arr 5 1 l.length (bytesD l)))]) (by kernel_rfl) ((op_append rfl elemOK_22 (id := 1) (by kernel_rfl) (n := 0) (xs := []) (by kernel_rfl) (y := (.d (.sl l.length (bytesD l)))) (by kernel_rfl) (ds := (bytesD l)) (off := 0) (k := l.length) (by kernel_rfl) (es := (bytesD l)) (byt_all) (byt_len) (by first | omega | (simp; omega)) (by kernel_rfl) (by decide)).castB (bl_app (by simp) (List.nil_append _))) ?_
    refine Walk.yes (val := (.own 0)) (bl := []) (by kernel_rfl) ((op_move rfl).cast (by kernel_rfl)) ?_
    refine Walk.yes (val := (.own 3)) (bl := [(2, .gone), (3, (.arr 5 1 ((l ++ (beb k u)).length) (bytesD (l ++ (beb k u)))))]) (by kernel_rfl) ((op_append rfl elemOK_22 (id := 2) (by kernel_rfl) (n := l.length) (xs := (bytesD l)) (by kernel_rfl) (y := (.own 0)) (by kernel_rfl) (ds := (bytesD (beb k u))) (off := 0) (k := ((beb k u).length)) (by kernel_rfl) (es := (bytesD (beb k u))) (byt_all) (byt_len) (by simp [beb_length]; omega) (by kernel_rfl) (by decide)).castB (bl_app (by simp) ((bytesD_append _ _).symm))) ?_
    refine Walk.yes (val := (.own 3)) (bl := []) (by kernel_rfl) ((op_move rfl).cast (by kernel_rfl)) ?_
    refine Walk.to_ (st' := ⟨[(.d (.sl l.length (bytesD l))), (.d (.lit (.int .u64 ((u / 256 ^ k : Nat) : Int)))), (.tup []), (.tup []), (.own 3), (.own 0), (.d (.lit (.int .i64 ((k : Nat) : Int)))), (.d (.lit (.int .i64 ((k : Nat) : Int)))), (.d (.lit (.bool false))), .top, .top, .top, .top, .top, .top, .top, .top, .top, .top, (.own 1), (.d (.sl l.length (bytesD l))), (.own 2), (.own 0), (.own 3)], [(.arr 5 1 ((beb k u).length) (bytesD (beb k u))), .gone, .gone, (.arr 5 1 ((l ++ (beb k u)).length) (bytesD (l ++ (beb k u))))], 0⟩) (by kernel_rfl) ?_
    refine Walk.nil ?_
    refine Then.normal ?_
    refine AWP.ret ?_
    exact ret_intro [3] [(.own 3)] (by kernel_rfl) (by kernel_rfl) (by have hk : k = 8 := (by omega); subst hk; exact ⟨arr_ren (by simp) (by simp), trivial⟩) (by kernel_rfl) ⟨Nat.le_of_ble_eq_true rfl, rfl⟩
set_option maxRecDepth 20000 in
set_option maxHeartbeats 4000000 in
theorem rtext_big (l : List UInt8) (s : ByteArray) (hs : 65535 < s.size) (hs' : s.size ≤ 900000000) : GCall Try.prog 11 [(.d (.sl l.length (bytesD l))), (.d (.lit (.string s)))] [] (.tup [(.d (.sl 0 [])), (.d (.lit (.int .i64 5)))]) [] := by
  refine GCall.of_body (n := 20) (rs := [(.tmp 4), (.tmp 5)]) Try.func11 rfl rfl rfl ?_
  refine AWP.to_ (st' := ⟨[(.d (.sl l.length (bytesD l))), (.d (.lit (.string s))), (.tup []), (.tup []), (.tup []), (.tup []), (.tup []), (.tup []), (.tup []), (.tup []), (.tup []), (.tup []), (.tup []), (.tup []), (.tup []), (.tup []), (.tup []), (.tup []), (.tup []), (.tup [])], [], 0⟩) (by kernel_rfl) ?_
  refine AWP.seq ?_
  refine AWP.text ?_
  refine Walk.yes (val := (.d .nil)) (bl := []) (by kernel_rfl) ((op_move rfl).cast (by kernel_rfl)) ?_
  refine Walk.yes (val := (.d (.lit (.int .i64 0)))) (bl := []) (by kernel_rfl) ((op_move rfl).cast (by kernel_rfl)) ?_
  refine Walk.to_ (st' := ⟨[(.d (.sl l.length (bytesD l))), (.d (.lit (.string s))), (.tup []), (.tup []), (.d .nil), (.d (.lit (.int .i64 0))), (.tup []), (.tup []), (.tup []), (.tup []), (.tup []), (.tup []), (.tup []), (.tup []), (.tup []), (.tup []), (.tup []), (.tup []), (.tup []), (.tup [])], [], 0⟩) (by kernel_rfl) ?_
  refine Walk.nil ?_
  refine Then.normal ?_
  refine AWP.seq ?_
  refine AWP.text ?_
  refine Walk.yes (val := (.d (.sl l.length (bytesD l)))) (bl := []) (by kernel_rfl) ((op_move rfl).cast (by kernel_rfl)) ?_
  refine Walk.yes (val := (.d (.lit (.string s)))) (bl := []) (by kernel_rfl) ((op_move rfl).cast (by kernel_rfl)) ?_
  refine Walk.yes (val := (.d (.lit (.int .i64 ((s.size : Nat) : Int))))) (bl := []) (by kernel_rfl) (op_len_str rfl (by kernel_rfl) (by kernel_rfl)) ?_
  refine Walk.yes (val := (.tup [(.d (.sl 0 [])), (.d (.lit (.int .i64 8)))])) (bl := []) (by kernel_rfl) ((use_frozen [] [] [] (rnum_big l 2 s.size (by decide) (by decide) (by first | omega | assumption | (simp; omega)) (by first | omega | assumption | (simp; omega))) rfl (first := []) (cap := []) (by kernel_rfl) (fun args w => Try.call9 args w) (by kernel_rfl) trivial (by kernel_rfl) (post' := []) (by kernel_rfl) (by kernel_rfl)).castB (by kernel_rfl)) ?_
  refine Walk.yes (val := (.tup [(.d (.sl 0 [])), (.d (.lit (.int .i64 8)))])) (bl := []) (by kernel_rfl) ((op_move rfl).cast (by kernel_rfl)) ?_
  refine Walk.yes (val := (.d (.sl 0 []))) (bl := []) (by kernel_rfl) (op_extract rfl (xs := [(.d (.sl 0 [])), (.d (.lit (.int .i64 8)))]) (by kernel_rfl) (by kernel_rfl)) ?_
  refine Walk.yes (val := (.d (.lit (.int .i64 8)))) (bl := []) (by kernel_rfl) (op_extract rfl (xs := [(.d (.sl 0 [])), (.d (.lit (.int .i64 8)))]) (by kernel_rfl) (by kernel_rfl)) ?_
  refine Walk.yes (val := (.d (.sl 0 []))) (bl := []) (by kernel_rfl) ((op_move rfl).cast (by kernel_rfl)) ?_
  refine Walk.yes (val := (.d (.lit (.int .i64 8)))) (bl := []) (by kernel_rfl) ((op_move rfl).cast (by kernel_rfl)) ?_
  refine Walk.to_ (st' := ⟨[(.d (.sl l.length (bytesD l))), (.d (.lit (.string s))), (.tup []), (.tup []), (.d .nil), (.d (.lit (.int .i64 0))), (.d (.sl 0 [])), (.d (.lit (.int .i64 8))), (.tup [(.d (.sl 0 [])), (.d (.lit (.int .i64 8)))]), (.d (.sl l.length (bytesD l))), (.d (.lit (.string s))), (.d (.lit (.int .i64 ((s.size : Nat) : Int)))), (.tup [(.d (.sl 0 [])), (.d (.lit (.int .i64 8)))]), (.d (.sl 0 [])), (.d (.lit (.int .i64 8))), (.tup []), (.tup []), (.tup []), (.tup []), (.tup [])], [], 0⟩) (by kernel_rfl) ?_
  refine Walk.nil ?_
  refine Then.normal ?_
  refine AWP.seq ?_
  refine AWP.seq ?_
  refine AWP.text ?_
  refine Walk.yes (val := (.d (.lit (.int .i64 8)))) (bl := []) (by kernel_rfl) ((op_move rfl).cast (by kernel_rfl)) ?_
  refine Walk.yes (val := (.d (.lit (.bool true)))) (bl := []) (by kernel_rfl) (((op_bin rfl (a1 := (.int .i64 8)) (a2 := (.int .i64 0)) (by kernel_rfl) (by kernel_rfl) (fun _ => hb_neq))).cast (lit_T (by decide))) ?_
  refine Walk.to_ (st' := ⟨[(.d (.sl l.length (bytesD l))), (.d (.lit (.string s))), (.tup []), (.tup []), (.d .nil), (.d (.lit (.int .i64 0))), (.d (.sl 0 [])), (.d (.lit (.int .i64 8))), (.tup [(.d (.sl 0 [])), (.d (.lit (.int .i64 8)))]), (.d (.sl l.length (bytesD l))), (.d (.lit (.string s))), (.d (.lit (.int .i64 ((s.size : Nat) : Int)))), (.tup [(.d (.sl 0 [])), (.d (.lit (.int .i64 8)))]), (.d (.sl 0 [])), (.d (.lit (.int .i64 8))), (.d (.lit (.int .i64 8))), (.d (.lit (.bool true))), (.tup []), (.tup []), (.tup [])], [], 0⟩) (by kernel_rfl) ?_
  refine Walk.nil ?_
  refine Then.normal ?_
  refine AWP.if_ true (by kernel_rfl) ?_
  refine AWP.seq ?_
  refine AWP.text ?_
  refine Walk.yes (val := (.d .nil)) (bl := []) (by kernel_rfl) ((op_move rfl).cast (by kernel_rfl)) ?_
  refine Walk.yes (val := (.d (.lit (.int .i64 5)))) (bl := []) (by kernel_rfl) ((op_move rfl).cast (by kernel_rfl)) ?_
  refine Walk.to_ (st' := ⟨[(.d (.sl l.length (bytesD l))), (.d (.lit (.string s))), (.tup []), (.tup []), (.d .nil), (.d (.lit (.int .i64 5))), (.d (.sl 0 [])), (.d (.lit (.int .i64 8))), (.tup [(.d (.sl 0 [])), (.d (.lit (.int .i64 8)))]), (.d (.sl l.length (bytesD l))), (.d (.lit (.string s))), (.d (.lit (.int .i64 ((s.size : Nat) : Int)))), (.tup [(.d (.sl 0 [])), (.d (.lit (.int .i64 8)))]), (.d (.sl 0 [])), (.d (.lit (.int .i64 8))), (.d (.lit (.int .i64 8))), (.d (.lit (.bool true))), (.tup []), (.tup []), (.tup [])], [], 0⟩) (by kernel_rfl) ?_
  refine Walk.nil ?_
  refine Then.normal ?_
  refine AWP.ret ?_
  refine Then.ret ?_
  exact ret_intro [] [(.d .nil), (.d (.lit (.int .i64 5)))] (by kernel_rfl) (by kernel_rfl) (trivial) (by kernel_rfl) ⟨Nat.le_of_ble_eq_true rfl, rfl⟩
set_option maxRecDepth 20000 in
set_option maxHeartbeats 4000000 in
theorem rtext_ok (l : List UInt8) (s : ByteArray) (hs : s.size ≤ 65535) (hl : l.length ≤ 900000000) : GCall Try.prog 11 [(.d (.sl l.length (bytesD l))), (.d (.lit (.string s)))] [] (.tup [(.own 0), (.d (.lit (.int .i64 0)))]) [(.arr 5 1 ((l ++ beb 2 s.size ++ s.data.toList).length) (bytesD (l ++ beb 2 s.size ++ s.data.toList)))] := by
  refine GCall.of_body (n := 20) (rs := [(.tmp 4), (.tmp 5)]) Try.func11 rfl rfl rfl ?_
  refine AWP.to_ (st' := ⟨[(.d (.sl l.length (bytesD l))), (.d (.lit (.string s))), (.tup []), (.tup []), (.tup []), (.tup []), (.tup []), (.tup []), (.tup []), (.tup []), (.tup []), (.tup []), (.tup []), (.tup []), (.tup []), (.tup []), (.tup []), (.tup []), (.tup []), (.tup [])], [], 0⟩) (by kernel_rfl) ?_
  refine AWP.seq ?_
  refine AWP.text ?_
  refine Walk.yes (val := (.d .nil)) (bl := []) (by kernel_rfl) ((op_move rfl).cast (by kernel_rfl)) ?_
  refine Walk.yes (val := (.d (.lit (.int .i64 0)))) (bl := []) (by kernel_rfl) ((op_move rfl).cast (by kernel_rfl)) ?_
  refine Walk.to_ (st' := ⟨[(.d (.sl l.length (bytesD l))), (.d (.lit (.string s))), (.tup []), (.tup []), (.d .nil), (.d (.lit (.int .i64 0))), (.tup []), (.tup []), (.tup []), (.tup []), (.tup []), (.tup []), (.tup []), (.tup []), (.tup []), (.tup []), (.tup []), (.tup []), (.tup []), (.tup [])], [], 0⟩) (by kernel_rfl) ?_
  refine Walk.nil ?_
  refine Then.normal ?_
  refine AWP.seq ?_
  refine AWP.text ?_
  refine Walk.yes (val := (.d (.sl l.length (bytesD l)))) (bl := []) (by kernel_rfl) ((op_move rfl).cast (by kernel_rfl)) ?_
  refine Walk.yes (val := (.d (.lit (.string s)))) (bl := []) (by kernel_rfl) ((op_move rfl).cast (by kernel_rfl)) ?_
  refine Walk.yes (val := (.d (.lit (.int .i64 ((s.size : Nat) : Int))))) (bl := []) (by kernel_rfl) (op_len_str rfl (by kernel_rfl) (by kernel_rfl)) ?_
  refine Walk.yes (val := (.tup [(.own 0), (.d (.lit (.int .i64 0)))])) (bl := [(0, (.arr 5 1 ((l ++ beb 2 s.size).length) (bytesD (l ++ beb 2 s.size))))]) (by kernel_rfl) ((use_frozen [] [0] [] (rnum_ok l 2 s.size (by decide) (by decide) (by first | omega | assumption | (simp; omega)) (by first | omega | assumption | (simp; omega)) (by first | omega | assumption | (simp; omega))) rfl (first := []) (cap := []) (by kernel_rfl) (fun args w => Try.call9 args w) (by kernel_rfl) trivial (by kernel_rfl) (post' := [(.arr 5 1 ((l ++ beb 2 s.size).length) (bytesD (l ++ beb 2 s.size)))]) (by kernel_rfl) (by kernel_rfl)).castB (by kernel_rfl)) ?_
  refine Walk.yes (val := (.tup [(.own 0), (.d (.lit (.int .i64 0)))])) (bl := []) (by kernel_rfl) ((op_move rfl).cast (by kernel_rfl)) ?_
  refine Walk.yes (val := (.own 0)) (bl := []) (by kernel_rfl) (op_extract rfl (xs := [(.own 0), (.d (.lit (.int .i64 0)))]) (by kernel_rfl) (by kernel_rfl)) ?_
  refine Walk.yes (val := (.d (.lit (.int .i64 0)))) (bl := []) (by kernel_rfl) (op_extract rfl (xs := [(.own 0), (.d (.lit (.int .i64 0)))]) (by kernel_rfl) (by kernel_rfl)) ?_
  refine Walk.yes (val := (.own 0)) (bl := []) (by kernel_rfl) ((op_move rfl).cast (by kernel_rfl)) ?_
  refine Walk.yes (val := (.d (.lit (.int .i64 0)))) (bl := []) (by kernel_rfl) ((op_move rfl).cast (by kernel_rfl)) ?_
  refine Walk.to_ (st' := ⟨[(.d (.sl l.length (bytesD l))), (.d (.lit (.string s))), (.tup []), (.tup []), (.d .nil), (.d (.lit (.int .i64 0))), (.own 0), (.d (.lit (.int .i64 0))), (.tup [(.own 0), (.d (.lit (.int .i64 0)))]), (.d (.sl l.length (bytesD l))), (.d (.lit (.string s))), (.d (.lit (.int .i64 ((s.size : Nat) : Int)))), (.tup [(.own 0), (.d (.lit (.int .i64 0)))]), (.own 0), (.d (.lit (.int .i64 0))), (.tup []), (.tup []), (.tup []), (.tup []), (.tup [])], [(.arr 5 1 ((l ++ beb 2 s.size).length) (bytesD (l ++ beb 2 s.size)))], 0⟩) (by kernel_rfl) ?_
  refine Walk.nil ?_
  refine Then.normal ?_
  refine AWP.seq ?_
  refine AWP.seq ?_
  refine AWP.text ?_
  refine Walk.yes (val := (.d (.lit (.int .i64 0)))) (bl := []) (by kernel_rfl) ((op_move rfl).cast (by kernel_rfl)) ?_
  refine Walk.yes (val := (.d (.lit (.bool false)))) (bl := []) (by kernel_rfl) (((op_bin rfl (a1 := (.int .i64 0)) (a2 := (.int .i64 0)) (by kernel_rfl) (by kernel_rfl) (fun _ => hb_neq))).cast (lit_F (by decide))) ?_
  refine Walk.to_ (st' := ⟨[(.d (.sl l.length (bytesD l))), (.d (.lit (.string s))), (.tup []), (.tup []), (.d .nil), (.d (.lit (.int .i64 0))), (.own 0), (.d (.lit (.int .i64 0))), (.tup [(.own 0), (.d (.lit (.int .i64 0)))]), (.d (.sl l.length (bytesD l))), (.d (.lit (.string s))), (.d (.lit (.int .i64 ((s.size : Nat) : Int)))), (.tup [(.own 0), (.d (.lit (.int .i64 0)))]), (.own 0), (.d (.lit (.int .i64 0))), (.d (.lit (.int .i64 0))), (.d (.lit (.bool false))), (.tup []), (.tup []), (.tup [])], [(.arr 5 1 ((l ++ beb 2 s.size).length) (bytesD (l ++ beb 2 s.size)))], 0⟩) (by kernel_rfl) ?_
  refine Walk.nil ?_
  refine Then.normal ?_
  refine AWP.if_ false (by kernel_rfl) ?_
  refine AWP.skip ?_
  refine Then.normal ?_
  refine AWP.seq ?_
  refine AWP.text ?_
  refine Walk.yes (val := (.own 0)) (bl := []) (by kernel_rfl) ((op_move rfl).cast (by kernel_rfl)) ?_
  refine Walk.yes (val := (.d (.lit (.string s)))) (bl := []) (by kernel_rfl) ((op_move rfl).cast (by kernel_rfl)) ?_
  refine Walk.yes (val := (.own 1)) (bl := [(0, .gone), (1, (.arr 5 1 (((l ++ beb 2 s.size) ++ s.data.toList).length) (bytesD ((l ++ beb 2 s.size) ++ s.data.toList))))]) (by kernel_rfl) ((op_appendStr rfl elemOK_22 (by kernel_rfl) (id := 0) (by kernel_rfl) (n := ((l ++ beb 2 s.size).length)) (xs := (bytesD (l ++ beb 2 s.size))) (by kernel_rfl) (str := s) (by kernel_rfl) (by simp [beb_length]; omega) (by kernel_rfl) (by decide)).castB (bl_app (by first | (simp; done) | (simp [Nat.add_assoc]; done)) (bytesD_append _ _).symm)) ?_
  refine Walk.yes (val := (.own 1)) (bl := []) (by kernel_rfl) ((op_move rfl).cast (by kernel_rfl)) ?_
  refine Walk.yes (val := (.d (.lit (.int .i64 0)))) (bl := []) (by kernel_rfl) ((op_move rfl).cast (by kernel_rfl)) ?_
  refine Walk.to_ (st' := ⟨[(.d (.sl l.length (bytesD l))), (.d (.lit (.string s))), (.tup []), (.tup []), (.own 1), (.d (.lit (.int .i64 0))), (.own 0), (.d (.lit (.int .i64 0))), (.tup [(.own 0), (.d (.lit (.int .i64 0)))]), (.d (.sl l.length (bytesD l))), (.d (.lit (.string s))), (.d (.lit (.int .i64 ((s.size : Nat) : Int)))), (.tup [(.own 0), (.d (.lit (.int .i64 0)))]), (.own 0), (.d (.lit (.int .i64 0))), (.d (.lit (.int .i64 0))), (.d (.lit (.bool false))), (.own 0), (.d (.lit (.string s))), (.own 1)], [.gone, (.arr 5 1 (((l ++ beb 2 s.size) ++ s.data.toList).length) (bytesD ((l ++ beb 2 s.size) ++ s.data.toList)))], 0⟩) (by kernel_rfl) ?_
  refine Walk.nil ?_
  refine Then.normal ?_
  refine AWP.ret ?_
  exact ret_intro [1] [(.own 1), (.d (.lit (.int .i64 0)))] (by kernel_rfl) (by kernel_rfl) (⟨rfl, trivial⟩) (by kernel_rfl) ⟨Nat.le_of_ble_eq_true rfl, rfl⟩
end Go.Proofs.Ytfklpnaklhcobaa.K
