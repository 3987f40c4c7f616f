/- readers -/
import Derived.Test.YtfklpnaklhcobaaOE
namespace Go.Proofs.Ytfklpnaklhcobaa.K
open Go.RowKit Go.Lib
set_option linter.unusedVariables false

def leftI (t : ByteArray) (a : Int) : Int := if a < 0 ∨ (t.size : Int) < a then 0 else t.size - a
def restB (t : ByteArray) (a : Int) : ByteArray := if a < 0 ∨ (t.size : Int) < a then ⟨#[]⟩ else t.extract a.toNat t.size
def cutL (t : ByteArray) (a n : Nat) : List UInt8 := (t.extract a (a + n)).data.toList
def failE (e c : Int) : Int := if e = 0 then c else e
def takeA (t : ByteArray) (a e : Int) (n : Nat) : Int := if e = 0 ∧ (n : Int) ≤ leftI t a then a + n else a
def takeE (t : ByteArray) (a e : Int) (n : Nat) : Int := if e = 0 then (if (n : Int) ≤ leftI t a then 0 else 3) else e
def takeV (t : ByteArray) (a e : Int) (n : Nat) : Nat := if e = 0 ∧ (n : Int) ≤ leftI t a then ben (cutL t a.toNat n) 0 else 0
theorem ren_as {ids : List Nat} {r r' x : A} (h : r = r') (h2 : r'.ren ids = some x) : r.ren ids = some x := h ▸ h2
theorem restB_size (t : ByteArray) (a : Int) : ((restB t a).size : Int) = leftI t a := by
  unfold restB leftI
  split
  · rfl
  · simp; omega
theorem leftI_nn (t : ByteArray) (a : Int) : 0 ≤ leftI t a := by unfold leftI; split <;> omega
theorem leftI_le (t : ByteArray) (a : Int) : leftI t a ≤ t.size := by unfold leftI; split <;> omega
theorem leftI_ok {t : ByteArray} {a : Int} {n : Nat} (h1 : 1 ≤ n) (h : (n : Int) ≤ leftI t a) : ∃ p : Nat, a = p ∧ p + n ≤ t.size := by
  unfold leftI at h; split at h
  · omega
  · exact ⟨a.toNat, by omega, by omega⟩
theorem cutL_length {t : ByteArray} {a n : Nat} (h : a + n ≤ t.size) : (cutL t a n).length = n := by
  unfold cutL; show (t.extract a (a + n)).size = n; simp; omega
theorem rest_cut {t : ByteArray} {a n : Nat} (h : a + n ≤ t.size) : (restB t a).data.toList.take n = cutL t a n := by
  unfold restB cutL
  rw [if_neg (by omega)]
  simp [ByteArray.data_extract, List.extract_eq_take_drop]
  rw [List.take_take]
  congr 1
  omega
theorem ben_step {l : List UInt8} {i : Nat} (h : i < l.length) : ben (l.take (i + 1)) 0 = ben (l.take i) 0 * 256 + (l.getD i 0).toNat := by
  rw [List.take_add_one, List.getElem?_eq_getElem h, ben_append, List.getD_eq_getElem?_getD, List.getElem?_eq_getElem h]; rfl
theorem ben_take_lt (l : List UInt8) {i : Nat} (h : i < 8) : ben (l.take i) 0 < 72057594037927936 := by
  have h1 := ben_lt (l.take i)
  have h2 : (256 : Nat) ^ (l.take i).length ≤ 256 ^ 7 := Nat.pow_le_pow_right (by decide) (by simp; omega)
  omega
theorem take_bad {t : ByteArray} {a e : Int} {n : Nat} (h : e ≠ 0 ∨ leftI t a < n) : takeA t a e n = a ∧ takeE t a e n = failE e 3 ∧ takeV t a e n = 0 := by
  refine ⟨if_neg (by omega), ?_, if_neg (by omega)⟩
  unfold takeE failE
  by_cases he : e = 0
  · rw [if_pos he, if_pos he, if_neg (by omega)]
  · rw [if_neg he, if_neg he]
theorem take_good {t : ByteArray} {p n : Nat} (h : p + n ≤ t.size) : takeA t p 0 n = ((p + n : Nat) : Int) ∧ takeE t p 0 n = 0 ∧ takeV t p 0 n = ben (cutL t p n) 0 := by
  have hl : leftI t p = t.size - p := if_neg (by omega)
  exact ⟨if_pos (by omega), by rw [takeE, if_pos rfl, if_pos (by omega)], if_pos (by omega)⟩
theorem ben_take_lt6 (l : List UInt8) {i : Nat} (h : i < 6) : ben (l.take i) 0 < 1099511627776 := by
  have h1 := ben_lt (l.take i)
  have h2 : (256 : Nat) ^ (l.take i).length ≤ 256 ^ 5 := Nat.pow_le_pow_right (by decide) (by simp; omega)
  omega
theorem takeV_lt (t : ByteArray) (a e : Int) {n : Nat} (h1 : 1 ≤ n) : takeV t a e n < 256 ^ n := by
  unfold takeV
  split
  · next h =>
    obtain ⟨p, rfl, h2⟩ := leftI_ok h1 h.2
    have h3 := ben_lt (cutL t p n)
    rw [cutL_length h2] at h3
    exact h3
  · exact Nat.pow_pos (by decide)
theorem or_add (m b : Nat) (h : b < 256) : m * 256 ||| b = m * 256 + b := by
  have := (Nat.two_pow_add_eq_or_of_lt (i := 8) (show b < 2 ^ 8 from h) m).symm
  rw [show (2 : Nat) ^ 8 = 256 from rfl, Nat.mul_comm 256 m] at this
  exact this
theorem lit_or {x y : Nat} (hx : x < 18446744073709551616) (hy : y < 18446744073709551616) {z : Int} (h : ((x ||| y : Nat) : Int) = z) : A.d (.lit (.int .u64 (IntKind.u64.wrap ((BitVec.ofInt IntKind.u64.bits (x : Int) ||| BitVec.ofInt IntKind.u64.bits (y : Int)).toNat)))) = .d (.lit (.int .u64 z)) := by
  have e : (BitVec.ofInt IntKind.u64.bits (x : Int) ||| BitVec.ofInt IntKind.u64.bits (y : Int)).toNat = x ||| y := by
    rw [BitVec.toNat_or, BitVec.toNat_ofInt, BitVec.toNat_ofInt]
    congr 1
    · show ((x : Int) % ((2 ^ 64 : Nat) : Int)).toNat = x
      omega
    · show ((y : Int) % ((2 ^ 64 : Nat) : Int)).toNat = y
      omega
  rw [e, ← h]
  have := Nat.or_lt_two_pow (n := 64) hx hy
  exact lit_u64 rfl (by omega) (by omega)
set_option maxRecDepth 20000 in
set_option maxHeartbeats 4000000 in
theorem left_c (t : ByteArray) (a e : Int) (ht : t.size ≤ 1099511627776) : GCall Try.prog 22 [(.agg [(.d (.lit (.string t))), (.d (.lit (.int .i64 a))), (.d (.lit (.int .i64 e)))])] [] (.d (.lit (.int .i64 (leftI t a)))) [] := by
  refine GCall.of_body (n := 20) (rs := [(.tmp 2)]) Try.func22 rfl rfl rfl ?_
  refine AWP.to_ (st' := ⟨[(.agg [(.d (.lit (.string t))), (.d (.lit (.int .i64 a))), (.d (.lit (.int .i64 e)))]), (.tup []), (.tup []), (.tup []), (.tup []), (.tup []), (.tup []), (.tup []), (.tup []), (.tup []), (.tup []), (.tup []), (.tup []), (.tup []), (.tup []), (.tup []), (.tup []), (.tup []), (.tup []), (.tup [])], [], 0⟩) (by kernel_rfl) ?_
  refine AWP.seq ?_
  refine AWP.text ?_
  refine Walk.yes (val := (.loc 0 0)) (bl := [(0, (.box [(.d (.lit (.string t))), (.d (.lit (.int .i64 a))), (.d (.lit (.int .i64 e)))]))]) (by kernel_rfl) (op_box rfl (y := (.agg [(.d (.lit (.string t))), (.d (.lit (.int .i64 a))), (.d (.lit (.int .i64 e)))])) (by kernel_rfl) (by kernel_rfl) (by kernel_rfl)) ?_
  refine Walk.yes (val := (.d (.lit (.int .i64 0)))) (bl := []) (by kernel_rfl) ((op_move rfl).cast (by kernel_rfl)) ?_
  refine Walk.to_ (st' := ⟨[(.agg [(.d (.lit (.string t))), (.d (.lit (.int .i64 a))), (.d (.lit (.int .i64 e)))]), (.loc 0 0), (.d (.lit (.int .i64 0))), (.tup []), (.tup []), (.tup []), (.tup []), (.tup []), (.tup []), (.tup []), (.tup []), (.tup []), (.tup []), (.tup []), (.tup []), (.tup []), (.tup []), (.tup []), (.tup []), (.tup [])], [(.box [(.d (.lit (.string t))), (.d (.lit (.int .i64 a))), (.d (.lit (.int .i64 e)))])], 0⟩) (by kernel_rfl) ?_
  refine Walk.nil ?_
  refine Then.normal ?_
  refine AWP.seq ?_
  refine AWP.seq ?_
  refine AWP.text ?_
  refine Walk.yes (val := (.loc 0 1)) (bl := []) (by kernel_rfl) ((op_faddr rfl (y := (.loc 0 0)) (k := 1) (by kernel_rfl) (by kernel_rfl) (by kernel_rfl)).cast (by kernel_rfl)) ?_
  refine Walk.yes (val := (.d (.lit (.int .i64 a)))) (bl := []) (by kernel_rfl) (op_load_at _ rfl (y := (.loc 0 1)) (by kernel_rfl) (xs := [(.d (.lit (.string t))), (.d (.lit (.int .i64 a))), (.d (.lit (.int .i64 e)))]) (off := 1) (by kernel_rfl) (by kernel_rfl) (by kernel_rfl)) ?_
  by_cases h1 : a < 0
  · refine Walk.yes (val := (.d (.lit (.bool true)))) (bl := []) (by kernel_rfl) (((op_bin rfl (a1 := (.int .i64 a)) (a2 := (.int .i64 0)) (by kernel_rfl) (by kernel_rfl) (fun _ => hb_lss))).cast (lit_T (by have := (h1); omega))) ?_
    refine Walk.yes (val := (.d (.lit (.bool true)))) (bl := []) (by kernel_rfl) ((op_move rfl).cast (by kernel_rfl)) ?_
    refine Walk.no (by kernel_rfl) ?_
    refine Walk.no (by kernel_rfl) ?_
    refine Walk.no (by kernel_rfl) ?_
    refine Walk.no (by kernel_rfl) ?_
    refine Walk.no (by kernel_rfl) ?_
    refine Walk.no (by kernel_rfl) ?_
    refine Walk.yes (val := (.d (.lit (.bool true)))) (bl := []) (by kernel_rfl) ((op_pickT rfl (by kernel_rfl)).cast (by kernel_rfl)) ?_
    refine Walk.to_ (st' := ⟨[(.agg [(.d (.lit (.string t))), (.d (.lit (.int .i64 a))), (.d (.lit (.int .i64 e)))]), (.loc 0 0), (.d (.lit (.int .i64 0))), (.loc 0 1), (.d (.lit (.int .i64 a))), (.d (.lit (.bool true))), (.d (.lit (.bool true))), (.tup []), (.tup []), (.tup []), (.tup []), (.tup []), (.tup []), (.d (.lit (.bool true))), (.tup []), (.tup []), (.tup []), (.tup []), (.tup []), (.tup [])], [(.box [(.d (.lit (.string t))), (.d (.lit (.int .i64 a))), (.d (.lit (.int .i64 e)))])], 0⟩) (by kernel_rfl) ?_
    refine Walk.nil ?_
    refine Then.normal ?_
    refine AWP.if_ true (by kernel_rfl) ?_
    refine AWP.seq ?_
    refine AWP.text ?_
    refine Walk.yes (val := (.d (.lit (.int .i64 0)))) (bl := []) (by kernel_rfl) ((op_move rfl).cast (by kernel_rfl)) ?_
    refine Walk.to_ (st' := ⟨[(.agg [(.d (.lit (.string t))), (.d (.lit (.int .i64 a))), (.d (.lit (.int .i64 e)))]), (.loc 0 0), (.d (.lit (.int .i64 0))), (.loc 0 1), (.d (.lit (.int .i64 a))), (.d (.lit (.bool true))), (.d (.lit (.bool true))), (.tup []), (.tup []), (.tup []), (.tup []), (.tup []), (.tup []), (.d (.lit (.bool true))), (.tup []), (.tup []), (.tup []), (.tup []), (.tup []), (.tup [])], [(.box [(.d (.lit (.string t))), (.d (.lit (.int .i64 a))), (.d (.lit (.int .i64 e)))])], 0⟩) (by kernel_rfl) ?_
    refine Walk.nil ?_
    refine Then.normal ?_
    refine AWP.ret ?_
    refine Then.ret ?_
    exact ret_intro [] [(.d (.lit (.int .i64 0)))] (by kernel_rfl) (ren_as (r' := (.d (.lit (.int .i64 0)))) (by unfold leftI; first | (rw [if_pos (by omega)]; done) | (rw [if_neg (by omega)]; done)) (by kernel_rfl)) (trivial) (by kernel_rfl) ⟨Nat.le_of_ble_eq_true rfl, rfl⟩
  · refine Walk.yes (val := (.d (.lit (.bool false)))) (bl := []) (by kernel_rfl) (((op_bin rfl (a1 := (.int .i64 a)) (a2 := (.int .i64 0)) (by kernel_rfl) (by kernel_rfl) (fun _ => hb_lss))).cast (lit_F (by have := (h1); omega))) ?_
    refine Walk.yes (val := (.d (.lit (.bool false)))) (bl := []) (by kernel_rfl) ((op_move rfl).cast (by kernel_rfl)) ?_
    refine Walk.yes (val := (.loc 0 1)) (bl := []) (by kernel_rfl) ((op_faddr rfl (y := (.loc 0 0)) (k := 1) (by kernel_rfl) (by kernel_rfl) (by kernel_rfl)).cast (by kernel_rfl)) ?_
    refine Walk.yes (val := (.d (.lit (.int .i64 a)))) (bl := []) (by kernel_rfl) (op_load_at _ rfl (y := (.loc 0 1)) (by kernel_rfl) (xs := [(.d (.lit (.string t))), (.d (.lit (.int .i64 a))), (.d (.lit (.int .i64 e)))]) (off := 1) (by kernel_rfl) (by kernel_rfl) (by kernel_rfl)) ?_
    refine Walk.yes (val := (.loc 0 0)) (bl := []) (by kernel_rfl) ((op_faddr rfl (y := (.loc 0 0)) (k := 0) (by kernel_rfl) (by kernel_rfl) (by kernel_rfl)).cast (by kernel_rfl)) ?_
    refine Walk.yes (val := (.d (.lit (.string t)))) (bl := []) (by kernel_rfl) (op_load_at _ rfl (y := (.loc 0 0)) (by kernel_rfl) (xs := [(.d (.lit (.string t))), (.d (.lit (.int .i64 a))), (.d (.lit (.int .i64 e)))]) (off := 0) (by kernel_rfl) (by kernel_rfl) (by kernel_rfl)) ?_
    refine Walk.yes (val := (.d (.lit (.int .i64 ((t.size : Nat) : Int))))) (bl := []) (by kernel_rfl) (op_len_str rfl (by kernel_rfl) (by kernel_rfl)) ?_
    by_cases h2 : ((t.size : Nat) : Int) < a
    · refine Walk.yes (val := (.d (.lit (.bool true)))) (bl := []) (by kernel_rfl) (((op_bin rfl (a1 := (.int .i64 a)) (a2 := (.int .i64 ((t.size : Nat) : Int))) (by kernel_rfl) (by kernel_rfl) (fun _ => hb_gtr))).cast (lit_T (by have := (h2); omega))) ?_
      refine Walk.yes (val := (.d (.lit (.bool true)))) (bl := []) (by kernel_rfl) ((op_pickF rfl (by kernel_rfl)).cast (by kernel_rfl)) ?_
      refine Walk.to_ (st' := ⟨[(.agg [(.d (.lit (.string t))), (.d (.lit (.int .i64 a))), (.d (.lit (.int .i64 e)))]), (.loc 0 0), (.d (.lit (.int .i64 0))), (.loc 0 1), (.d (.lit (.int .i64 a))), (.d (.lit (.bool false))), (.d (.lit (.bool false))), (.loc 0 1), (.d (.lit (.int .i64 a))), (.loc 0 0), (.d (.lit (.string t))), (.d (.lit (.int .i64 ((t.size : Nat) : Int)))), (.d (.lit (.bool true))), (.d (.lit (.bool true))), (.tup []), (.tup []), (.tup []), (.tup []), (.tup []), (.tup [])], [(.box [(.d (.lit (.string t))), (.d (.lit (.int .i64 a))), (.d (.lit (.int .i64 e)))])], 0⟩) (by kernel_rfl) ?_
      refine Walk.nil ?_
      refine Then.normal ?_
      refine AWP.if_ true (by kernel_rfl) ?_
      refine AWP.seq ?_
      refine AWP.text ?_
      refine Walk.yes (val := (.d (.lit (.int .i64 0)))) (bl := []) (by kernel_rfl) ((op_move rfl).cast (by kernel_rfl)) ?_
      refine Walk.to_ (st' := ⟨[(.agg [(.d (.lit (.string t))), (.d (.lit (.int .i64 a))), (.d (.lit (.int .i64 e)))]), (.loc 0 0), (.d (.lit (.int .i64 0))), (.loc 0 1), (.d (.lit (.int .i64 a))), (.d (.lit (.bool false))), (.d (.lit (.bool false))), (.loc 0 1), (.d (.lit (.int .i64 a))), (.loc 0 0), (.d (.lit (.string t))), (.d (.lit (.int .i64 ((t.size : Nat) : Int)))), (.d (.lit (.bool true))), (.d (.lit (.bool true))), (.tup []), (.tup []), (.tup []), (.tup []), (.tup []), (.tup [])], [(.box [(.d (.lit (.string t))), (.d (.lit (.int .i64 a))), (.d (.lit (.int .i64 e)))])], 0⟩) (by kernel_rfl) ?_
      refine Walk.nil ?_
      refine Then.normal ?_
      refine AWP.ret ?_
      refine Then.ret ?_
      exact ret_intro [] [(.d (.lit (.int .i64 0)))] (by kernel_rfl) (ren_as (r' := (.d (.lit (.int .i64 0)))) (by unfold leftI; first | (rw [if_pos (by omega)]; done) | (rw [if_neg (by omega)]; done)) (by kernel_rfl)) (trivial) (by kernel_rfl) ⟨Nat.le_of_ble_eq_true rfl, rfl⟩
    · refine Walk.yes (val := (.d (.lit (.bool false)))) (bl := []) (by kernel_rfl) (((op_bin rfl (a1 := (.int .i64 a)) (a2 := (.int .i64 ((t.size : Nat) : Int))) (by kernel_rfl) (by kernel_rfl) (fun _ => hb_gtr))).cast (lit_F (by have := (h2); omega))) ?_
      refine Walk.yes (val := (.d (.lit (.bool false)))) (bl := []) (by kernel_rfl) ((op_pickF rfl (by kernel_rfl)).cast (by kernel_rfl)) ?_
      refine Walk.to_ (st' := ⟨[(.agg [(.d (.lit (.string t))), (.d (.lit (.int .i64 a))), (.d (.lit (.int .i64 e)))]), (.loc 0 0), (.d (.lit (.int .i64 0))), (.loc 0 1), (.d (.lit (.int .i64 a))), (.d (.lit (.bool false))), (.d (.lit (.bool false))), (.loc 0 1), (.d (.lit (.int .i64 a))), (.loc 0 0), (.d (.lit (.string t))), (.d (.lit (.int .i64 ((t.size : Nat) : Int)))), (.d (.lit (.bool false))), (.d (.lit (.bool false))), (.tup []), (.tup []), (.tup []), (.tup []), (.tup []), (.tup [])], [(.box [(.d (.lit (.string t))), (.d (.lit (.int .i64 a))), (.d (.lit (.int .i64 e)))])], 0⟩) (by kernel_rfl) ?_
      refine Walk.nil ?_
      refine Then.normal ?_
      refine AWP.if_ false (by kernel_rfl) ?_
      refine AWP.skip ?_
      refine Then.normal ?_
      refine AWP.seq ?_
      refine AWP.text ?_
      refine Walk.yes (val := (.loc 0 0)) (bl := []) (by kernel_rfl) ((op_faddr rfl (y := (.loc 0 0)) (k := 0) (by kernel_rfl) (by kernel_rfl) (by kernel_rfl)).cast (by kernel_rfl)) ?_
      refine Walk.yes (val := (.d (.lit (.string t)))) (bl := []) (by kernel_rfl) (op_load_at _ rfl (y := (.loc 0 0)) (by kernel_rfl) (xs := [(.d (.lit (.string t))), (.d (.lit (.int .i64 a))), (.d (.lit (.int .i64 e)))]) (off := 0) (by kernel_rfl) (by kernel_rfl) (by kernel_rfl)) ?_
      refine Walk.yes (val := (.d (.lit (.int .i64 ((t.size : Nat) : Int))))) (bl := []) (by kernel_rfl) (op_len_str rfl (by kernel_rfl) (by kernel_rfl)) ?_
      refine Walk.yes (val := (.loc 0 1)) (bl := []) (by kernel_rfl) ((op_faddr rfl (y := (.loc 0 0)) (k := 1) (by kernel_rfl) (by kernel_rfl) (by kernel_rfl)).cast (by kernel_rfl)) ?_
      refine Walk.yes (val := (.d (.lit (.int .i64 a)))) (bl := []) (by kernel_rfl) (op_load_at _ rfl (y := (.loc 0 1)) (by kernel_rfl) (xs := [(.d (.lit (.string t))), (.d (.lit (.int .i64 a))), (.d (.lit (.int .i64 e)))]) (off := 1) (by kernel_rfl) (by kernel_rfl) (by kernel_rfl)) ?_
      refine Walk.yes (val := (.d (.lit (.int .i64 (((t.size : Nat) : Int) - a))))) (bl := []) (by kernel_rfl) (((op_bin rfl (a1 := (.int .i64 ((t.size : Nat) : Int))) (a2 := (.int .i64 a)) (by kernel_rfl) (by kernel_rfl) (fun _ => hb_sub))).cast (lit_i64 (by first | rfl | omega | (simp; done)) (by omega) (by omega))) ?_
      refine Walk.yes (val := (.d (.lit (.int .i64 (((t.size : Nat) : Int) - a))))) (bl := []) (by kernel_rfl) ((op_move rfl).cast (by kernel_rfl)) ?_
      refine Walk.to_ (st' := ⟨[(.agg [(.d (.lit (.string t))), (.d (.lit (.int .i64 a))), (.d (.lit (.int .i64 e)))]), (.loc 0 0), (.d (.lit (.int .i64 (((t.size : Nat) : Int) - a)))), (.loc 0 1), (.d (.lit (.int .i64 a))), (.d (.lit (.bool false))), (.d (.lit (.bool false))), (.loc 0 1), (.d (.lit (.int .i64 a))), (.loc 0 0), (.d (.lit (.string t))), (.d (.lit (.int .i64 ((t.size : Nat) : Int)))), (.d (.lit (.bool false))), (.d (.lit (.bool false))), (.loc 0 0), (.d (.lit (.string t))), (.d (.lit (.int .i64 ((t.size : Nat) : Int)))), (.loc 0 1), (.d (.lit (.int .i64 a))), (.d (.lit (.int .i64 (((t.size : Nat) : Int) - a))))], [(.box [(.d (.lit (.string t))), (.d (.lit (.int .i64 a))), (.d (.lit (.int .i64 e)))])], 0⟩) (by kernel_rfl) ?_
      refine Walk.nil ?_
      refine Then.normal ?_
      refine AWP.ret ?_
      exact ret_intro [] [(.d (.lit (.int .i64 (((t.size : Nat) : Int) - a))))] (by kernel_rfl) (ren_as (r' := (.d (.lit (.int .i64 (((t.size : Nat) : Int) - a))))) (by unfold leftI; first | (rw [if_pos (by omega)]; done) | (rw [if_neg (by omega)]; done)) (by kernel_rfl)) (trivial) (by kernel_rfl) ⟨Nat.le_of_ble_eq_true rfl, rfl⟩
set_option maxRecDepth 20000 in
set_option maxHeartbeats 4000000 in
theorem fail_c (t : ByteArray) (a e c : Int) : GCall Try.prog 31 [(.agg [(.d (.lit (.string t))), (.d (.lit (.int .i64 a))), (.d (.lit (.int .i64 e)))]), (.d (.lit (.int .i64 c)))] [] (.agg [(.d (.lit (.string t))), (.d (.lit (.int .i64 a))), (.d (.lit (.int .i64 (failE e c))))]) [] := by
  refine GCall.of_body (n := 11) (rs := [(.cell 4 39)]) Try.func31 rfl rfl rfl ?_
  refine AWP.to_ (st' := ⟨[(.agg [(.d (.lit (.string t))), (.d (.lit (.int .i64 a))), (.d (.lit (.int .i64 e)))]), (.d (.lit (.int .i64 c))), (.tup []), (.tup []), (.tup []), (.tup []), (.tup []), (.tup []), (.tup []), (.tup []), (.tup [])], [], 0⟩) (by kernel_rfl) ?_
  refine AWP.seq ?_
  refine AWP.text ?_
  refine Walk.yes (val := (.loc 0 0)) (bl := [(0, (.box [(.d (.lit (.string t))), (.d (.lit (.int .i64 a))), (.d (.lit (.int .i64 e)))]))]) (by kernel_rfl) (op_box rfl (y := (.agg [(.d (.lit (.string t))), (.d (.lit (.int .i64 a))), (.d (.lit (.int .i64 e)))])) (by kernel_rfl) (by kernel_rfl) (by kernel_rfl)) ?_
  refine Walk.yes (val := (.loc 1 0)) (bl := [(1, (.box [(.d (.lit (.string ⟨#[]⟩))), (.d (.lit (.int .i64 0))), (.d (.lit (.int .i64 0)))]))]) (by kernel_rfl) (op_alloc rfl (by kernel_rfl) (by kernel_rfl)) ?_
  refine Walk.to_ (st' := ⟨[(.agg [(.d (.lit (.string t))), (.d (.lit (.int .i64 a))), (.d (.lit (.int .i64 e)))]), (.d (.lit (.int .i64 c))), (.loc 0 0), (.tup []), (.loc 1 0), (.tup []), (.tup []), (.tup []), (.tup []), (.tup []), (.tup [])], [(.box [(.d (.lit (.string t))), (.d (.lit (.int .i64 a))), (.d (.lit (.int .i64 e)))]), (.box [(.d (.lit (.string ⟨#[]⟩))), (.d (.lit (.int .i64 0))), (.d (.lit (.int .i64 0)))])], 0⟩) (by kernel_rfl) ?_
  refine Walk.nil ?_
  refine Then.normal ?_
  refine AWP.seq ?_
  refine AWP.seq ?_
  refine AWP.text ?_
  refine Walk.yes (val := (.loc 0 2)) (bl := []) (by kernel_rfl) ((op_faddr rfl (y := (.loc 0 0)) (k := 2) (by kernel_rfl) (by kernel_rfl) (by kernel_rfl)).cast (by kernel_rfl)) ?_
  refine Walk.yes (val := (.d (.lit (.int .i64 e)))) (bl := []) (by kernel_rfl) (op_load_at _ rfl (y := (.loc 0 2)) (by kernel_rfl) (xs := [(.d (.lit (.string t))), (.d (.lit (.int .i64 a))), (.d (.lit (.int .i64 e)))]) (off := 2) (by kernel_rfl) (by kernel_rfl) (by kernel_rfl)) ?_
  by_cases h1 : e = 0
  · refine Walk.yes (val := (.d (.lit (.bool true)))) (bl := []) (by kernel_rfl) (((op_bin rfl (a1 := (.int .i64 e)) (a2 := (.int .i64 0)) (by kernel_rfl) (by kernel_rfl) (fun _ => hb_eql))).cast (lit_T (by have := (h1); omega))) ?_
    refine Walk.to_ (st' := ⟨[(.agg [(.d (.lit (.string t))), (.d (.lit (.int .i64 a))), (.d (.lit (.int .i64 e)))]), (.d (.lit (.int .i64 c))), (.loc 0 0), (.tup []), (.loc 1 0), (.loc 0 2), (.d (.lit (.int .i64 e))), (.d (.lit (.bool true))), (.tup []), (.tup []), (.tup [])], [(.box [(.d (.lit (.string t))), (.d (.lit (.int .i64 a))), (.d (.lit (.int .i64 e)))]), (.box [(.d (.lit (.string ⟨#[]⟩))), (.d (.lit (.int .i64 0))), (.d (.lit (.int .i64 0)))])], 0⟩) (by kernel_rfl) ?_
    refine Walk.nil ?_
    refine Then.normal ?_
    refine AWP.if_ true (by kernel_rfl) ?_
    refine AWP.text ?_
    refine Walk.yes (val := (.d (.lit (.int .i64 c)))) (bl := []) (by kernel_rfl) ((op_move rfl).cast (by kernel_rfl)) ?_
    refine Walk.yes (val := (.loc 0 2)) (bl := []) (by kernel_rfl) ((op_faddr rfl (y := (.loc 0 0)) (k := 2) (by kernel_rfl) (by kernel_rfl) (by kernel_rfl)).cast (by kernel_rfl)) ?_
    refine Walk.yes (val := (.tup [])) (bl := [(0, (.box [(.d (.lit (.string t))), (.d (.lit (.int .i64 a))), (.d (.lit (.int .i64 c)))]))]) (by kernel_rfl) ((op_store rfl (id := 0) (off := 2) (xs := [(.d (.lit (.string t))), (.d (.lit (.int .i64 a))), (.d (.lit (.int .i64 e)))]) (ys := [(.d (.lit (.int .i64 c)))]) (v := (.d (.lit (.int .i64 c)))) (by kernel_rfl) (by kernel_rfl) (by kernel_rfl) (by kernel_rfl) (by kernel_rfl) (Nat.le_of_ble_eq_true rfl)).castB (by kernel_rfl)) ?_
    refine Walk.to_ (st' := ⟨[(.agg [(.d (.lit (.string t))), (.d (.lit (.int .i64 a))), (.d (.lit (.int .i64 e)))]), (.d (.lit (.int .i64 c))), (.loc 0 0), (.tup []), (.loc 1 0), (.loc 0 2), (.d (.lit (.int .i64 e))), (.d (.lit (.bool true))), (.d (.lit (.int .i64 c))), (.loc 0 2), (.tup [])], [(.box [(.d (.lit (.string t))), (.d (.lit (.int .i64 a))), (.d (.lit (.int .i64 c)))]), (.box [(.d (.lit (.string ⟨#[]⟩))), (.d (.lit (.int .i64 0))), (.d (.lit (.int .i64 0)))])], 0⟩) (by kernel_rfl) ?_
    refine Walk.nil ?_
    refine Then.normal ?_
    refine AWP.seq ?_
    refine AWP.text ?_
    refine Walk.yes (val := (.agg [(.d (.lit (.string t))), (.d (.lit (.int .i64 a))), (.d (.lit (.int .i64 c)))])) (bl := []) (by kernel_rfl) (op_load rfl (y := (.loc 0 0)) (by kernel_rfl) (xs := [(.d (.lit (.string t))), (.d (.lit (.int .i64 a))), (.d (.lit (.int .i64 c)))]) (off := 0) (by kernel_rfl) (by kernel_rfl)) ?_
    refine Walk.yes (val := (.tup [])) (bl := [(1, (.box [(.d (.lit (.string t))), (.d (.lit (.int .i64 a))), (.d (.lit (.int .i64 c)))]))]) (by kernel_rfl) ((op_store rfl (id := 1) (off := 0) (xs := [(.d (.lit (.string ⟨#[]⟩))), (.d (.lit (.int .i64 0))), (.d (.lit (.int .i64 0)))]) (ys := [(.d (.lit (.string t))), (.d (.lit (.int .i64 a))), (.d (.lit (.int .i64 c)))]) (v := (.agg [(.d (.lit (.string t))), (.d (.lit (.int .i64 a))), (.d (.lit (.int .i64 c)))])) (by kernel_rfl) (by kernel_rfl) (by kernel_rfl) (by kernel_rfl) (by kernel_rfl) (Nat.le_of_ble_eq_true rfl)).castB (by kernel_rfl)) ?_
    refine Walk.to_ (st' := ⟨[(.agg [(.d (.lit (.string t))), (.d (.lit (.int .i64 a))), (.d (.lit (.int .i64 e)))]), (.d (.lit (.int .i64 c))), (.loc 0 0), (.tup []), (.loc 1 0), (.loc 0 2), (.d (.lit (.int .i64 e))), (.d (.lit (.bool true))), (.d (.lit (.int .i64 c))), (.loc 0 2), (.agg [(.d (.lit (.string t))), (.d (.lit (.int .i64 a))), (.d (.lit (.int .i64 c)))])], [(.box [(.d (.lit (.string t))), (.d (.lit (.int .i64 a))), (.d (.lit (.int .i64 c)))]), (.box [(.d (.lit (.string t))), (.d (.lit (.int .i64 a))), (.d (.lit (.int .i64 c)))])], 0⟩) (by kernel_rfl) ?_
    refine Walk.nil ?_
    refine Then.normal ?_
    refine AWP.ret ?_
    exact ret_intro [] [(.agg [(.d (.lit (.string t))), (.d (.lit (.int .i64 a))), (.d (.lit (.int .i64 c)))])] (by kernel_rfl) (ren_as (r' := (.agg [(.d (.lit (.string t))), (.d (.lit (.int .i64 a))), (.d (.lit (.int .i64 c)))])) (by unfold failE; first | (rw [if_pos (by omega)]; done) | (rw [if_neg (by omega)]; done)) (by kernel_rfl)) (trivial) (by kernel_rfl) ⟨Nat.le_of_ble_eq_true rfl, rfl⟩
  · refine Walk.yes (val := (.d (.lit (.bool false)))) (bl := []) (by kernel_rfl) (((op_bin rfl (a1 := (.int .i64 e)) (a2 := (.int .i64 0)) (by kernel_rfl) (by kernel_rfl) (fun _ => hb_eql))).cast (lit_F (by have := (h1); omega))) ?_
    refine Walk.to_ (st' := ⟨[(.agg [(.d (.lit (.string t))), (.d (.lit (.int .i64 a))), (.d (.lit (.int .i64 e)))]), (.d (.lit (.int .i64 c))), (.loc 0 0), (.tup []), (.loc 1 0), (.loc 0 2), (.d (.lit (.int .i64 e))), (.d (.lit (.bool false))), (.tup []), (.tup []), (.tup [])], [(.box [(.d (.lit (.string t))), (.d (.lit (.int .i64 a))), (.d (.lit (.int .i64 e)))]), (.box [(.d (.lit (.string ⟨#[]⟩))), (.d (.lit (.int .i64 0))), (.d (.lit (.int .i64 0)))])], 0⟩) (by kernel_rfl) ?_
    refine Walk.nil ?_
    refine Then.normal ?_
    refine AWP.if_ false (by kernel_rfl) ?_
    refine AWP.skip ?_
    refine Then.normal ?_
    refine AWP.seq ?_
    refine AWP.text ?_
    refine Walk.yes (val := (.agg [(.d (.lit (.string t))), (.d (.lit (.int .i64 a))), (.d (.lit (.int .i64 e)))])) (bl := []) (by kernel_rfl) (op_load rfl (y := (.loc 0 0)) (by kernel_rfl) (xs := [(.d (.lit (.string t))), (.d (.lit (.int .i64 a))), (.d (.lit (.int .i64 e)))]) (off := 0) (by kernel_rfl) (by kernel_rfl)) ?_
    refine Walk.yes (val := (.tup [])) (bl := [(1, (.box [(.d (.lit (.string t))), (.d (.lit (.int .i64 a))), (.d (.lit (.int .i64 e)))]))]) (by kernel_rfl) ((op_store rfl (id := 1) (off := 0) (xs := [(.d (.lit (.string ⟨#[]⟩))), (.d (.lit (.int .i64 0))), (.d (.lit (.int .i64 0)))]) (ys := [(.d (.lit (.string t))), (.d (.lit (.int .i64 a))), (.d (.lit (.int .i64 e)))]) (v := (.agg [(.d (.lit (.string t))), (.d (.lit (.int .i64 a))), (.d (.lit (.int .i64 e)))])) (by kernel_rfl) (by kernel_rfl) (by kernel_rfl) (by kernel_rfl) (by kernel_rfl) (Nat.le_of_ble_eq_true rfl)).castB (by kernel_rfl)) ?_
    refine Walk.to_ (st' := ⟨[(.agg [(.d (.lit (.string t))), (.d (.lit (.int .i64 a))), (.d (.lit (.int .i64 e)))]), (.d (.lit (.int .i64 c))), (.loc 0 0), (.tup []), (.loc 1 0), (.loc 0 2), (.d (.lit (.int .i64 e))), (.d (.lit (.bool false))), (.tup []), (.tup []), (.agg [(.d (.lit (.string t))), (.d (.lit (.int .i64 a))), (.d (.lit (.int .i64 e)))])], [(.box [(.d (.lit (.string t))), (.d (.lit (.int .i64 a))), (.d (.lit (.int .i64 e)))]), (.box [(.d (.lit (.string t))), (.d (.lit (.int .i64 a))), (.d (.lit (.int .i64 e)))])], 0⟩) (by kernel_rfl) ?_
    refine Walk.nil ?_
    refine Then.normal ?_
    refine AWP.ret ?_
    exact ret_intro [] [(.agg [(.d (.lit (.string t))), (.d (.lit (.int .i64 a))), (.d (.lit (.int .i64 e)))])] (by kernel_rfl) (ren_as (r' := (.agg [(.d (.lit (.string t))), (.d (.lit (.int .i64 a))), (.d (.lit (.int .i64 e)))])) (by unfold failE; first | (rw [if_pos (by omega)]; done) | (rw [if_neg (by omega)]; done)) (by kernel_rfl)) (trivial) (by kernel_rfl) ⟨Nat.le_of_ble_eq_true rfl, rfl⟩
set_option maxRecDepth 20000 in
set_option maxHeartbeats 4000000 in
theorem take_e (t : ByteArray) (a e : Int) (n : Nat) (h1 : 1 ≤ n) (h8 : n ≤ 8) (ht : t.size ≤ 1099511627776) (he : e ≠ 0) : GCall Try.prog 30 [(.agg [(.d (.lit (.string t))), (.d (.lit (.int .i64 a))), (.d (.lit (.int .i64 e)))]), (.d (.lit (.int .i64 ((n : Nat) : Int))))] [] (.tup [(.agg [(.d (.lit (.string t))), (.d (.lit (.int .i64 (takeA t a e n)))), (.d (.lit (.int .i64 (takeE t a e n))))]), (.d (.lit (.int .u64 (((takeV t a e n) : Nat) : Int))))]) [] := by
  refine GCall.of_body (n := 48) (rs := [(.cell 4 39), (.tmp 5)]) Try.func30 rfl rfl rfl ?_
  refine AWP.to_ (st' := ⟨[(.agg [(.d (.lit (.string t))), (.d (.lit (.int .i64 a))), (.d (.lit (.int .i64 e)))]), (.d (.lit (.int .i64 ((n : Nat) : Int)))), (.tup []), (.tup []), (.tup []), (.tup []), (.tup []), (.tup []), (.tup []), (.tup []), (.tup []), (.tup []), (.tup []), (.tup []), (.tup []), (.tup []), (.tup []), (.tup []), (.tup []), (.tup []), (.tup []), (.tup []), (.tup []), (.tup []), (.tup []), (.tup []), (.tup []), (.tup []), (.tup []), (.tup []), (.tup []), (.tup []), (.tup []), (.tup []), (.tup []), (.tup []), (.tup []), (.tup []), (.tup []), (.tup []), (.tup []), (.tup []), (.tup []), (.tup []), (.tup []), (.tup []), (.tup []), (.tup [])], [], 0⟩) (by kernel_rfl) ?_
  refine AWP.seq ?_
  refine AWP.text ?_
  refine Walk.yes (val := (.loc 0 0)) (bl := [(0, (.box [(.d (.lit (.string t))), (.d (.lit (.int .i64 a))), (.d (.lit (.int .i64 e)))]))]) (by kernel_rfl) (op_box rfl (y := (.agg [(.d (.lit (.string t))), (.d (.lit (.int .i64 a))), (.d (.lit (.int .i64 e)))])) (by kernel_rfl) (by kernel_rfl) (by kernel_rfl)) ?_
  refine Walk.yes (val := (.loc 1 0)) (bl := [(1, (.box [(.d (.lit (.string ⟨#[]⟩))), (.d (.lit (.int .i64 0))), (.d (.lit (.int .i64 0)))]))]) (by kernel_rfl) (op_alloc rfl (by kernel_rfl) (by kernel_rfl)) ?_
  refine Walk.yes (val := (.d (.lit (.int .u64 0)))) (bl := []) (by kernel_rfl) ((op_move rfl).cast (by kernel_rfl)) ?_
  refine Walk.to_ (st' := ⟨[(.agg [(.d (.lit (.string t))), (.d (.lit (.int .i64 a))), (.d (.lit (.int .i64 e)))]), (.d (.lit (.int .i64 ((n : Nat) : Int)))), (.loc 0 0), (.tup []), (.loc 1 0), (.d (.lit (.int .u64 0))), (.tup []), (.tup []), (.tup []), (.tup []), (.tup []), (.tup []), (.tup []), (.tup []), (.tup []), (.tup []), (.tup []), (.tup []), (.tup []), (.tup []), (.tup []), (.tup []), (.tup []), (.tup []), (.tup []), (.tup []), (.tup []), (.tup []), (.tup []), (.tup []), (.tup []), (.tup []), (.tup []), (.tup []), (.tup []), (.tup []), (.tup []), (.tup []), (.tup []), (.tup []), (.tup []), (.tup []), (.tup []), (.tup []), (.tup []), (.tup []), (.tup []), (.tup [])], [(.box [(.d (.lit (.string t))), (.d (.lit (.int .i64 a))), (.d (.lit (.int .i64 e)))]), (.box [(.d (.lit (.string ⟨#[]⟩))), (.d (.lit (.int .i64 0))), (.d (.lit (.int .i64 0)))])], 0⟩) (by kernel_rfl) ?_
  refine Walk.nil ?_
  refine Then.normal ?_
  refine AWP.seq ?_
  refine AWP.seq ?_
  refine AWP.text ?_
  refine Walk.yes (val := (.loc 0 2)) (bl := []) (by kernel_rfl) ((op_faddr rfl (y := (.loc 0 0)) (k := 2) (by kernel_rfl) (by kernel_rfl) (by kernel_rfl)).cast (by kernel_rfl)) ?_
  refine Walk.yes (val := (.d (.lit (.int .i64 e)))) (bl := []) (by kernel_rfl) (op_load_at _ rfl (y := (.loc 0 2)) (by kernel_rfl) (xs := [(.d (.lit (.string t))), (.d (.lit (.int .i64 a))), (.d (.lit (.int .i64 e)))]) (off := 2) (by kernel_rfl) (by kernel_rfl) (by kernel_rfl)) ?_
  refine Walk.yes (val := (.d (.lit (.bool true)))) (bl := []) (by kernel_rfl) (((op_bin rfl (a1 := (.int .i64 e)) (a2 := (.int .i64 0)) (by kernel_rfl) (by kernel_rfl) (fun _ => hb_neq))).cast (lit_T (by omega))) ?_
  refine Walk.yes (val := (.d (.lit (.bool true)))) (bl := []) (by kernel_rfl) ((op_move rfl).cast (by kernel_rfl)) ?_
  refine Walk.no (by kernel_rfl) ?_
  refine Walk.no (by kernel_rfl) ?_
  refine Walk.no (by kernel_rfl) ?_
  refine Walk.no (by kernel_rfl) ?_
  refine Walk.yes (val := (.d (.lit (.bool true)))) (bl := []) (by kernel_rfl) ((op_pickT rfl (by kernel_rfl)).cast (by kernel_rfl)) ?_
  refine Walk.to_ (st' := ⟨[(.agg [(.d (.lit (.string t))), (.d (.lit (.int .i64 a))), (.d (.lit (.int .i64 e)))]), (.d (.lit (.int .i64 ((n : Nat) : Int)))), (.loc 0 0), (.tup []), (.loc 1 0), (.d (.lit (.int .u64 0))), (.tup []), (.tup []), (.tup []), (.loc 0 2), (.d (.lit (.int .i64 e))), (.d (.lit (.bool true))), (.d (.lit (.bool true))), (.tup []), (.tup []), (.tup []), (.tup []), (.d (.lit (.bool true))), (.tup []), (.tup []), (.tup []), (.tup []), (.tup []), (.tup []), (.tup []), (.tup []), (.tup []), (.tup []), (.tup []), (.tup []), (.tup []), (.tup []), (.tup []), (.tup []), (.tup []), (.tup []), (.tup []), (.tup []), (.tup []), (.tup []), (.tup []), (.tup []), (.tup []), (.tup []), (.tup []), (.tup []), (.tup []), (.tup [])], [(.box [(.d (.lit (.string t))), (.d (.lit (.int .i64 a))), (.d (.lit (.int .i64 e)))]), (.box [(.d (.lit (.string ⟨#[]⟩))), (.d (.lit (.int .i64 0))), (.d (.lit (.int .i64 0)))])], 0⟩) (by kernel_rfl) ?_
  refine Walk.nil ?_
  refine Then.normal ?_
  refine AWP.if_ true (by kernel_rfl) ?_
  refine AWP.seq ?_
  refine AWP.text ?_
  refine Walk.yes (val := (.agg [(.d (.lit (.string t))), (.d (.lit (.int .i64 a))), (.d (.lit (.int .i64 e)))])) (bl := []) (by kernel_rfl) (op_load rfl (y := (.loc 0 0)) (by kernel_rfl) (xs := [(.d (.lit (.string t))), (.d (.lit (.int .i64 a))), (.d (.lit (.int .i64 e)))]) (off := 0) (by kernel_rfl) (by kernel_rfl)) ?_
  refine Walk.yes (val := (.agg [(.d (.lit (.string t))), (.d (.lit (.int .i64 a))), (.d (.lit (.int .i64 (failE e 3))))])) (bl := []) (by kernel_rfl) ((use_frozen [] [] [] (fail_c t a e 3) rfl (first := []) (cap := []) (by kernel_rfl) (fun args w => Try.call31 args w) (by kernel_rfl) trivial (by kernel_rfl) (post' := []) (by kernel_rfl) (by kernel_rfl)).castB (by kernel_rfl)) ?_
  refine Walk.yes (val := (.tup [])) (bl := [(1, (.box [(.d (.lit (.string t))), (.d (.lit (.int .i64 a))), (.d (.lit (.int .i64 (failE e 3))))]))]) (by kernel_rfl) ((op_store rfl (id := 1) (off := 0) (xs := [(.d (.lit (.string ⟨#[]⟩))), (.d (.lit (.int .i64 0))), (.d (.lit (.int .i64 0)))]) (ys := [(.d (.lit (.string t))), (.d (.lit (.int .i64 a))), (.d (.lit (.int .i64 (failE e 3))))]) (v := (.agg [(.d (.lit (.string t))), (.d (.lit (.int .i64 a))), (.d (.lit (.int .i64 (failE e 3))))])) (by kernel_rfl) (by kernel_rfl) (by kernel_rfl) (by kernel_rfl) (by kernel_rfl) (Nat.le_of_ble_eq_true rfl)).castB (by kernel_rfl)) ?_
  refine Walk.yes (val := (.d (.lit (.int .u64 0)))) (bl := []) (by kernel_rfl) ((op_move rfl).cast (by kernel_rfl)) ?_
  refine Walk.to_ (st' := ⟨[(.agg [(.d (.lit (.string t))), (.d (.lit (.int .i64 a))), (.d (.lit (.int .i64 e)))]), (.d (.lit (.int .i64 ((n : Nat) : Int)))), (.loc 0 0), (.tup []), (.loc 1 0), (.d (.lit (.int .u64 0))), (.tup []), (.tup []), (.tup []), (.loc 0 2), (.d (.lit (.int .i64 e))), (.d (.lit (.bool true))), (.d (.lit (.bool true))), (.tup []), (.tup []), (.tup []), (.tup []), (.d (.lit (.bool true))), (.agg [(.d (.lit (.string t))), (.d (.lit (.int .i64 a))), (.d (.lit (.int .i64 e)))]), (.agg [(.d (.lit (.string t))), (.d (.lit (.int .i64 a))), (.d (.lit (.int .i64 (failE e 3))))]), (.tup []), (.tup []), (.tup []), (.tup []), (.tup []), (.tup []), (.tup []), (.tup []), (.tup []), (.tup []), (.tup []), (.tup []), (.tup []), (.tup []), (.tup []), (.tup []), (.tup []), (.tup []), (.tup []), (.tup []), (.tup []), (.tup []), (.tup []), (.tup []), (.tup []), (.tup []), (.tup []), (.tup [])], [(.box [(.d (.lit (.string t))), (.d (.lit (.int .i64 a))), (.d (.lit (.int .i64 e)))]), (.box [(.d (.lit (.string t))), (.d (.lit (.int .i64 a))), (.d (.lit (.int .i64 (failE e 3))))])], 0⟩) (by kernel_rfl) ?_
  refine Walk.nil ?_
  refine Then.normal ?_
  refine AWP.ret ?_
  refine Then.ret ?_
  exact ret_intro [] [(.agg [(.d (.lit (.string t))), (.d (.lit (.int .i64 a))), (.d (.lit (.int .i64 (failE e 3))))]), (.d (.lit (.int .u64 0)))] (by kernel_rfl) (ren_as (r' := (.tup [(.agg [(.d (.lit (.string t))), (.d (.lit (.int .i64 a))), (.d (.lit (.int .i64 (failE e 3))))]), (.d (.lit (.int .u64 0)))])) (by obtain ⟨e1, e2, e3⟩ := take_bad (t := t) (a := a) (e := e) (n := n) (by omega); rw [e1, e2, e3]; rfl) (by kernel_rfl)) (trivial) (by kernel_rfl) ⟨Nat.le_of_ble_eq_true rfl, rfl⟩
set_option maxRecDepth 20000 in
set_option maxHeartbeats 4000000 in
theorem take_cut (t : ByteArray) (a e : Int) (n : Nat) (h1 : 1 ≤ n) (h8 : n ≤ 8) (ht : t.size ≤ 1099511627776) (he : e = 0) (hl : leftI t a < n) : GCall Try.prog 30 [(.agg [(.d (.lit (.string t))), (.d (.lit (.int .i64 a))), (.d (.lit (.int .i64 e)))]), (.d (.lit (.int .i64 ((n : Nat) : Int))))] [] (.tup [(.agg [(.d (.lit (.string t))), (.d (.lit (.int .i64 (takeA t a e n)))), (.d (.lit (.int .i64 (takeE t a e n))))]), (.d (.lit (.int .u64 (((takeV t a e n) : Nat) : Int))))]) [] := by
  refine GCall.of_body (n := 48) (rs := [(.cell 4 39), (.tmp 5)]) Try.func30 rfl rfl rfl ?_
  refine AWP.to_ (st' := ⟨[(.agg [(.d (.lit (.string t))), (.d (.lit (.int .i64 a))), (.d (.lit (.int .i64 e)))]), (.d (.lit (.int .i64 ((n : Nat) : Int)))), (.tup []), (.tup []), (.tup []), (.tup []), (.tup []), (.tup []), (.tup []), (.tup []), (.tup []), (.tup []), (.tup []), (.tup []), (.tup []), (.tup []), (.tup []), (.tup []), (.tup []), (.tup []), (.tup []), (.tup []), (.tup []), (.tup []), (.tup []), (.tup []), (.tup []), (.tup []), (.tup []), (.tup []), (.tup []), (.tup []), (.tup []), (.tup []), (.tup []), (.tup []), (.tup []), (.tup []), (.tup []), (.tup []), (.tup []), (.tup []), (.tup []), (.tup []), (.tup []), (.tup []), (.tup []), (.tup [])], [], 0⟩) (by kernel_rfl) ?_
  refine AWP.seq ?_
  refine AWP.text ?_
  refine Walk.yes (val := (.loc 0 0)) (bl := [(0, (.box [(.d (.lit (.string t))), (.d (.lit (.int .i64 a))), (.d (.lit (.int .i64 e)))]))]) (by kernel_rfl) (op_box rfl (y := (.agg [(.d (.lit (.string t))), (.d (.lit (.int .i64 a))), (.d (.lit (.int .i64 e)))])) (by kernel_rfl) (by kernel_rfl) (by kernel_rfl)) ?_
  refine Walk.yes (val := (.loc 1 0)) (bl := [(1, (.box [(.d (.lit (.string ⟨#[]⟩))), (.d (.lit (.int .i64 0))), (.d (.lit (.int .i64 0)))]))]) (by kernel_rfl) (op_alloc rfl (by kernel_rfl) (by kernel_rfl)) ?_
  refine Walk.yes (val := (.d (.lit (.int .u64 0)))) (bl := []) (by kernel_rfl) ((op_move rfl).cast (by kernel_rfl)) ?_
  refine Walk.to_ (st' := ⟨[(.agg [(.d (.lit (.string t))), (.d (.lit (.int .i64 a))), (.d (.lit (.int .i64 e)))]), (.d (.lit (.int .i64 ((n : Nat) : Int)))), (.loc 0 0), (.tup []), (.loc 1 0), (.d (.lit (.int .u64 0))), (.tup []), (.tup []), (.tup []), (.tup []), (.tup []), (.tup []), (.tup []), (.tup []), (.tup []), (.tup []), (.tup []), (.tup []), (.tup []), (.tup []), (.tup []), (.tup []), (.tup []), (.tup []), (.tup []), (.tup []), (.tup []), (.tup []), (.tup []), (.tup []), (.tup []), (.tup []), (.tup []), (.tup []), (.tup []), (.tup []), (.tup []), (.tup []), (.tup []), (.tup []), (.tup []), (.tup []), (.tup []), (.tup []), (.tup []), (.tup []), (.tup []), (.tup [])], [(.box [(.d (.lit (.string t))), (.d (.lit (.int .i64 a))), (.d (.lit (.int .i64 e)))]), (.box [(.d (.lit (.string ⟨#[]⟩))), (.d (.lit (.int .i64 0))), (.d (.lit (.int .i64 0)))])], 0⟩) (by kernel_rfl) ?_
  refine Walk.nil ?_
  refine Then.normal ?_
  refine AWP.seq ?_
  refine AWP.seq ?_
  refine AWP.text ?_
  refine Walk.yes (val := (.loc 0 2)) (bl := []) (by kernel_rfl) ((op_faddr rfl (y := (.loc 0 0)) (k := 2) (by kernel_rfl) (by kernel_rfl) (by kernel_rfl)).cast (by kernel_rfl)) ?_
  refine Walk.yes (val := (.d (.lit (.int .i64 e)))) (bl := []) (by kernel_rfl) (op_load_at _ rfl (y := (.loc 0 2)) (by kernel_rfl) (xs := [(.d (.lit (.string t))), (.d (.lit (.int .i64 a))), (.d (.lit (.int .i64 e)))]) (off := 2) (by kernel_rfl) (by kernel_rfl) (by kernel_rfl)) ?_
  refine Walk.yes (val := (.d (.lit (.bool false)))) (bl := []) (by kernel_rfl) (((op_bin rfl (a1 := (.int .i64 e)) (a2 := (.int .i64 0)) (by kernel_rfl) (by kernel_rfl) (fun _ => hb_neq))).cast (lit_F (by omega))) ?_
  refine Walk.yes (val := (.d (.lit (.bool false)))) (bl := []) (by kernel_rfl) ((op_move rfl).cast (by kernel_rfl)) ?_
  refine Walk.yes (val := (.agg [(.d (.lit (.string t))), (.d (.lit (.int .i64 a))), (.d (.lit (.int .i64 e)))])) (bl := []) (by kernel_rfl) (op_load rfl (y := (.loc 0 0)) (by kernel_rfl) (xs := [(.d (.lit (.string t))), (.d (.lit (.int .i64 a))), (.d (.lit (.int .i64 e)))]) (off := 0) (by kernel_rfl) (by kernel_rfl)) ?_
  refine Walk.yes (val := (.d (.lit (.int .i64 (leftI t a))))) (bl := []) (by kernel_rfl) ((use_frozen [] [] [] (left_c t a e (by first | omega | assumption | (simp; omega))) rfl (first := []) (cap := []) (by kernel_rfl) (fun args w => Try.call22 args w) (by kernel_rfl) trivial (by kernel_rfl) (post' := []) (by kernel_rfl) (by kernel_rfl)).castB (by kernel_rfl)) ?_
  refine Walk.yes (val := (.d (.lit (.int .i64 ((n : Nat) : Int))))) (bl := []) (by kernel_rfl) ((op_move rfl).cast (by kernel_rfl)) ?_
  refine Walk.yes (val := (.d (.lit (.bool true)))) (bl := []) (by kernel_rfl) (((op_bin rfl (a1 := (.int .i64 (leftI t a))) (a2 := (.int .i64 ((n : Nat) : Int))) (by kernel_rfl) (by kernel_rfl) (fun _ => hb_lss))).cast (lit_T (by omega))) ?_
  refine Walk.yes (val := (.d (.lit (.bool true)))) (bl := []) (by kernel_rfl) ((op_pickF rfl (by kernel_rfl)).cast (by kernel_rfl)) ?_
  refine Walk.to_ (st' := ⟨[(.agg [(.d (.lit (.string t))), (.d (.lit (.int .i64 a))), (.d (.lit (.int .i64 e)))]), (.d (.lit (.int .i64 ((n : Nat) : Int)))), (.loc 0 0), (.tup []), (.loc 1 0), (.d (.lit (.int .u64 0))), (.tup []), (.tup []), (.tup []), (.loc 0 2), (.d (.lit (.int .i64 e))), (.d (.lit (.bool false))), (.d (.lit (.bool false))), (.agg [(.d (.lit (.string t))), (.d (.lit (.int .i64 a))), (.d (.lit (.int .i64 e)))]), (.d (.lit (.int .i64 (leftI t a)))), (.d (.lit (.int .i64 ((n : Nat) : Int)))), (.d (.lit (.bool true))), (.d (.lit (.bool true))), (.tup []), (.tup []), (.tup []), (.tup []), (.tup []), (.tup []), (.tup []), (.tup []), (.tup []), (.tup []), (.tup []), (.tup []), (.tup []), (.tup []), (.tup []), (.tup []), (.tup []), (.tup []), (.tup []), (.tup []), (.tup []), (.tup []), (.tup []), (.tup []), (.tup []), (.tup []), (.tup []), (.tup []), (.tup []), (.tup [])], [(.box [(.d (.lit (.string t))), (.d (.lit (.int .i64 a))), (.d (.lit (.int .i64 e)))]), (.box [(.d (.lit (.string ⟨#[]⟩))), (.d (.lit (.int .i64 0))), (.d (.lit (.int .i64 0)))])], 0⟩) (by kernel_rfl) ?_
  refine Walk.nil ?_
  refine Then.normal ?_
  refine AWP.if_ true (by kernel_rfl) ?_
  refine AWP.seq ?_
  refine AWP.text ?_
  refine Walk.yes (val := (.agg [(.d (.lit (.string t))), (.d (.lit (.int .i64 a))), (.d (.lit (.int .i64 e)))])) (bl := []) (by kernel_rfl) (op_load rfl (y := (.loc 0 0)) (by kernel_rfl) (xs := [(.d (.lit (.string t))), (.d (.lit (.int .i64 a))), (.d (.lit (.int .i64 e)))]) (off := 0) (by kernel_rfl) (by kernel_rfl)) ?_
  refine Walk.yes (val := (.agg [(.d (.lit (.string t))), (.d (.lit (.int .i64 a))), (.d (.lit (.int .i64 (failE e 3))))])) (bl := []) (by kernel_rfl) ((use_frozen [] [] [] (fail_c t a e 3) rfl (first := []) (cap := []) (by kernel_rfl) (fun args w => Try.call31 args w) (by kernel_rfl) trivial (by kernel_rfl) (post' := []) (by kernel_rfl) (by kernel_rfl)).castB (by kernel_rfl)) ?_
  refine Walk.yes (val := (.tup [])) (bl := [(1, (.box [(.d (.lit (.string t))), (.d (.lit (.int .i64 a))), (.d (.lit (.int .i64 (failE e 3))))]))]) (by kernel_rfl) ((op_store rfl (id := 1) (off := 0) (xs := [(.d (.lit (.string ⟨#[]⟩))), (.d (.lit (.int .i64 0))), (.d (.lit (.int .i64 0)))]) (ys := [(.d (.lit (.string t))), (.d (.lit (.int .i64 a))), (.d (.lit (.int .i64 (failE e 3))))]) (v := (.agg [(.d (.lit (.string t))), (.d (.lit (.int .i64 a))), (.d (.lit (.int .i64 (failE e 3))))])) (by kernel_rfl) (by kernel_rfl) (by kernel_rfl) (by kernel_rfl) (by kernel_rfl) (Nat.le_of_ble_eq_true rfl)).castB (by kernel_rfl)) ?_
  refine Walk.yes (val := (.d (.lit (.int .u64 0)))) (bl := []) (by kernel_rfl) ((op_move rfl).cast (by kernel_rfl)) ?_
  refine Walk.to_ (st' := ⟨[(.agg [(.d (.lit (.string t))), (.d (.lit (.int .i64 a))), (.d (.lit (.int .i64 e)))]), (.d (.lit (.int .i64 ((n : Nat) : Int)))), (.loc 0 0), (.tup []), (.loc 1 0), (.d (.lit (.int .u64 0))), (.tup []), (.tup []), (.tup []), (.loc 0 2), (.d (.lit (.int .i64 e))), (.d (.lit (.bool false))), (.d (.lit (.bool false))), (.agg [(.d (.lit (.string t))), (.d (.lit (.int .i64 a))), (.d (.lit (.int .i64 e)))]), (.d (.lit (.int .i64 (leftI t a)))), (.d (.lit (.int .i64 ((n : Nat) : Int)))), (.d (.lit (.bool true))), (.d (.lit (.bool true))), (.agg [(.d (.lit (.string t))), (.d (.lit (.int .i64 a))), (.d (.lit (.int .i64 e)))]), (.agg [(.d (.lit (.string t))), (.d (.lit (.int .i64 a))), (.d (.lit (.int .i64 (failE e 3))))]), (.tup []), (.tup []), (.tup []), (.tup []), (.tup []), (.tup []), (.tup []), (.tup []), (.tup []), (.tup []), (.tup []), (.tup []), (.tup []), (.tup []), (.tup []), (.tup []), (.tup []), (.tup []), (.tup []), (.tup []), (.tup []), (.tup []), (.tup []), (.tup []), (.tup []), (.tup []), (.tup []), (.tup [])], [(.box [(.d (.lit (.string t))), (.d (.lit (.int .i64 a))), (.d (.lit (.int .i64 e)))]), (.box [(.d (.lit (.string t))), (.d (.lit (.int .i64 a))), (.d (.lit (.int .i64 (failE e 3))))])], 0⟩) (by kernel_rfl) ?_
  refine Walk.nil ?_
  refine Then.normal ?_
  refine AWP.ret ?_
  refine Then.ret ?_
  exact ret_intro [] [(.agg [(.d (.lit (.string t))), (.d (.lit (.int .i64 a))), (.d (.lit (.int .i64 (failE e 3))))]), (.d (.lit (.int .u64 0)))] (by kernel_rfl) (ren_as (r' := (.tup [(.agg [(.d (.lit (.string t))), (.d (.lit (.int .i64 a))), (.d (.lit (.int .i64 (failE e 3))))]), (.d (.lit (.int .u64 0)))])) (by obtain ⟨e1, e2, e3⟩ := take_bad (t := t) (a := a) (e := e) (n := n) (by omega); rw [e1, e2, e3]; rfl) (by kernel_rfl)) (trivial) (by kernel_rfl) ⟨Nat.le_of_ble_eq_true rfl, rfl⟩
set_option maxRecDepth 20000 in
set_option maxHeartbeats 4000000 in
theorem take_ok (t : ByteArray) (p : Nat) (n : Nat) (h1 : 1 ≤ n) (h8 : n ≤ 8) (ht : t.size ≤ 1099511627776) (hp : p + n ≤ t.size) : GCall Try.prog 30 [(.agg [(.d (.lit (.string t))), (.d (.lit (.int .i64 (p : Int)))), (.d (.lit (.int .i64 (0 : Int))))]), (.d (.lit (.int .i64 ((n : Nat) : Int))))] [] (.tup [(.agg [(.d (.lit (.string t))), (.d (.lit (.int .i64 ((p + n : Nat) : Int)))), (.d (.lit (.int .i64 0)))]), (.d (.lit (.int .u64 (((ben (cutL t p n) 0) : Nat) : Int))))]) [] := by
  have hl : leftI t p = t.size - p := if_neg (by omega)
  have hX := cutL_length hp
  have hsz : (t.extract p (p + n)).size = n := hX
  refine GCall.of_body (n := 48) (rs := [(.cell 4 39), (.tmp 5)]) Try.func30 rfl rfl rfl ?_
  refine AWP.to_ (st' := ⟨[(.agg [(.d (.lit (.string t))), (.d (.lit (.int .i64 (p : Int)))), (.d (.lit (.int .i64 (0 : Int))))]), (.d (.lit (.int .i64 ((n : Nat) : Int)))), (.tup []), (.tup []), (.tup []), (.tup []), (.tup []), (.tup []), (.tup []), (.tup []), (.tup []), (.tup []), (.tup []), (.tup []), (.tup []), (.tup []), (.tup []), (.tup []), (.tup []), (.tup []), (.tup []), (.tup []), (.tup []), (.tup []), (.tup []), (.tup []), (.tup []), (.tup []), (.tup []), (.tup []), (.tup []), (.tup []), (.tup []), (.tup []), (.tup []), (.tup []), (.tup []), (.tup []), (.tup []), (.tup []), (.tup []), (.tup []), (.tup []), (.tup []), (.tup []), (.tup []), (.tup []), (.tup [])], [], 0⟩) (by kernel_rfl) ?_
  refine AWP.seq ?_
  refine AWP.text ?_
  refine Walk.yes (val := (.loc 0 0)) (bl := [(0, (.box [(.d (.lit (.string t))), (.d (.lit (.int .i64 (p : Int)))), (.d (.lit (.int .i64 (0 : Int))))]))]) (by kernel_rfl) (op_box rfl (y := (.agg [(.d (.lit (.string t))), (.d (.lit (.int .i64 (p : Int)))), (.d (.lit (.int .i64 (0 : Int))))])) (by kernel_rfl) (by kernel_rfl) (by kernel_rfl)) ?_
  refine Walk.yes (val := (.loc 1 0)) (bl := [(1, (.box [(.d (.lit (.string ⟨#[]⟩))), (.d (.lit (.int .i64 0))), (.d (.lit (.int .i64 0)))]))]) (by kernel_rfl) (op_alloc rfl (by kernel_rfl) (by kernel_rfl)) ?_
  refine Walk.yes (val := (.d (.lit (.int .u64 0)))) (bl := []) (by kernel_rfl) ((op_move rfl).cast (by kernel_rfl)) ?_
  refine Walk.to_ (st' := ⟨[(.agg [(.d (.lit (.string t))), (.d (.lit (.int .i64 (p : Int)))), (.d (.lit (.int .i64 (0 : Int))))]), (.d (.lit (.int .i64 ((n : Nat) : Int)))), (.loc 0 0), (.tup []), (.loc 1 0), (.d (.lit (.int .u64 0))), (.tup []), (.tup []), (.tup []), (.tup []), (.tup []), (.tup []), (.tup []), (.tup []), (.tup []), (.tup []), (.tup []), (.tup []), (.tup []), (.tup []), (.tup []), (.tup []), (.tup []), (.tup []), (.tup []), (.tup []), (.tup []), (.tup []), (.tup []), (.tup []), (.tup []), (.tup []), (.tup []), (.tup []), (.tup []), (.tup []), (.tup []), (.tup []), (.tup []), (.tup []), (.tup []), (.tup []), (.tup []), (.tup []), (.tup []), (.tup []), (.tup []), (.tup [])], [(.box [(.d (.lit (.string t))), (.d (.lit (.int .i64 (p : Int)))), (.d (.lit (.int .i64 (0 : Int))))]), (.box [(.d (.lit (.string ⟨#[]⟩))), (.d (.lit (.int .i64 0))), (.d (.lit (.int .i64 0)))])], 0⟩) (by kernel_rfl) ?_
  refine Walk.nil ?_
  refine Then.normal ?_
  refine AWP.seq ?_
  refine AWP.seq ?_
  refine AWP.text ?_
  refine Walk.yes (val := (.loc 0 2)) (bl := []) (by kernel_rfl) ((op_faddr rfl (y := (.loc 0 0)) (k := 2) (by kernel_rfl) (by kernel_rfl) (by kernel_rfl)).cast (by kernel_rfl)) ?_
  refine Walk.yes (val := (.d (.lit (.int .i64 (0 : Int))))) (bl := []) (by kernel_rfl) (op_load_at _ rfl (y := (.loc 0 2)) (by kernel_rfl) (xs := [(.d (.lit (.string t))), (.d (.lit (.int .i64 (p : Int)))), (.d (.lit (.int .i64 (0 : Int))))]) (off := 2) (by kernel_rfl) (by kernel_rfl) (by kernel_rfl)) ?_
  refine Walk.yes (val := (.d (.lit (.bool false)))) (bl := []) (by kernel_rfl) (((op_bin rfl (a1 := (.int .i64 (0 : Int))) (a2 := (.int .i64 0)) (by kernel_rfl) (by kernel_rfl) (fun _ => hb_neq))).cast (lit_F (by omega))) ?_
  refine Walk.yes (val := (.d (.lit (.bool false)))) (bl := []) (by kernel_rfl) ((op_move rfl).cast (by kernel_rfl)) ?_
  refine Walk.yes (val := (.agg [(.d (.lit (.string t))), (.d (.lit (.int .i64 (p : Int)))), (.d (.lit (.int .i64 (0 : Int))))])) (bl := []) (by kernel_rfl) (op_load rfl (y := (.loc 0 0)) (by kernel_rfl) (xs := [(.d (.lit (.string t))), (.d (.lit (.int .i64 (p : Int)))), (.d (.lit (.int .i64 (0 : Int))))]) (off := 0) (by kernel_rfl) (by kernel_rfl)) ?_
  refine Walk.yes (val := (.d (.lit (.int .i64 (leftI t (p : Int)))))) (bl := []) (by kernel_rfl) ((use_frozen [] [] [] (left_c t (p : Int) (0 : Int) (by first | omega | assumption | (simp; omega))) rfl (first := []) (cap := []) (by kernel_rfl) (fun args w => Try.call22 args w) (by kernel_rfl) trivial (by kernel_rfl) (post' := []) (by kernel_rfl) (by kernel_rfl)).castB (by kernel_rfl)) ?_
  refine Walk.yes (val := (.d (.lit (.int .i64 ((n : Nat) : Int))))) (bl := []) (by kernel_rfl) ((op_move rfl).cast (by kernel_rfl)) ?_
  refine Walk.yes (val := (.d (.lit (.bool false)))) (bl := []) (by kernel_rfl) (((op_bin rfl (a1 := (.int .i64 (leftI t (p : Int)))) (a2 := (.int .i64 ((n : Nat) : Int))) (by kernel_rfl) (by kernel_rfl) (fun _ => hb_lss))).cast (lit_F (by omega))) ?_
  refine Walk.yes (val := (.d (.lit (.bool false)))) (bl := []) (by kernel_rfl) ((op_pickF rfl (by kernel_rfl)).cast (by kernel_rfl)) ?_
  refine Walk.to_ (st' := ⟨[(.agg [(.d (.lit (.string t))), (.d (.lit (.int .i64 (p : Int)))), (.d (.lit (.int .i64 (0 : Int))))]), (.d (.lit (.int .i64 ((n : Nat) : Int)))), (.loc 0 0), (.tup []), (.loc 1 0), (.d (.lit (.int .u64 0))), (.tup []), (.tup []), (.tup []), (.loc 0 2), (.d (.lit (.int .i64 (0 : Int)))), (.d (.lit (.bool false))), (.d (.lit (.bool false))), (.agg [(.d (.lit (.string t))), (.d (.lit (.int .i64 (p : Int)))), (.d (.lit (.int .i64 (0 : Int))))]), (.d (.lit (.int .i64 (leftI t (p : Int))))), (.d (.lit (.int .i64 ((n : Nat) : Int)))), (.d (.lit (.bool false))), (.d (.lit (.bool false))), (.tup []), (.tup []), (.tup []), (.tup []), (.tup []), (.tup []), (.tup []), (.tup []), (.tup []), (.tup []), (.tup []), (.tup []), (.tup []), (.tup []), (.tup []), (.tup []), (.tup []), (.tup []), (.tup []), (.tup []), (.tup []), (.tup []), (.tup []), (.tup []), (.tup []), (.tup []), (.tup []), (.tup []), (.tup []), (.tup [])], [(.box [(.d (.lit (.string t))), (.d (.lit (.int .i64 (p : Int)))), (.d (.lit (.int .i64 (0 : Int))))]), (.box [(.d (.lit (.string ⟨#[]⟩))), (.d (.lit (.int .i64 0))), (.d (.lit (.int .i64 0)))])], 0⟩) (by kernel_rfl) ?_
  refine Walk.nil ?_
  refine Then.normal ?_
  refine AWP.if_ false (by kernel_rfl) ?_
  refine AWP.skip ?_
  refine Then.normal ?_
  refine AWP.seq ?_
  refine AWP.text ?_
  refine Walk.yes (val := (.d (.lit (.int .u64 0)))) (bl := []) (by kernel_rfl) ((op_move rfl).cast (by kernel_rfl)) ?_
  refine Walk.to_ (st' := ⟨[(.agg [(.d (.lit (.string t))), (.d (.lit (.int .i64 (p : Int)))), (.d (.lit (.int .i64 (0 : Int))))]), (.d (.lit (.int .i64 ((n : Nat) : Int)))), (.loc 0 0), (.tup []), (.loc 1 0), (.d (.lit (.int .u64 0))), (.d (.lit (.int .u64 0))), (.tup []), (.tup []), (.loc 0 2), (.d (.lit (.int .i64 (0 : Int)))), (.d (.lit (.bool false))), (.d (.lit (.bool false))), (.agg [(.d (.lit (.string t))), (.d (.lit (.int .i64 (p : Int)))), (.d (.lit (.int .i64 (0 : Int))))]), (.d (.lit (.int .i64 (leftI t (p : Int))))), (.d (.lit (.int .i64 ((n : Nat) : Int)))), (.d (.lit (.bool false))), (.d (.lit (.bool false))), (.tup []), (.tup []), (.tup []), (.tup []), (.tup []), (.tup []), (.tup []), (.tup []), (.tup []), (.tup []), (.tup []), (.tup []), (.tup []), (.tup []), (.tup []), (.tup []), (.tup []), (.tup []), (.tup []), (.tup []), (.tup []), (.tup []), (.tup []), (.tup []), (.tup []), (.tup []), (.tup []), (.tup []), (.tup []), (.tup [])], [(.box [(.d (.lit (.string t))), (.d (.lit (.int .i64 (p : Int)))), (.d (.lit (.int .i64 (0 : Int))))]), (.box [(.d (.lit (.string ⟨#[]⟩))), (.d (.lit (.int .i64 0))), (.d (.lit (.int .i64 0)))])], 0⟩) (by kernel_rfl) ?_
  refine Walk.nil ?_
  refine Then.normal ?_
  refine AWP.seq ?_
  refine AWP.seq ?_
  refine AWP.text ?_
  refine Walk.yes (val := (.loc 0 0)) (bl := []) (by kernel_rfl) ((op_faddr rfl (y := (.loc 0 0)) (k := 0) (by kernel_rfl) (by kernel_rfl) (by kernel_rfl)).cast (by kernel_rfl)) ?_
  refine Walk.yes (val := (.d (.lit (.string t)))) (bl := []) (by kernel_rfl) (op_load_at _ rfl (y := (.loc 0 0)) (by kernel_rfl) (xs := [(.d (.lit (.string t))), (.d (.lit (.int .i64 (p : Int)))), (.d (.lit (.int .i64 (0 : Int))))]) (off := 0) (by kernel_rfl) (by kernel_rfl) (by kernel_rfl)) ?_
  refine Walk.yes (val := (.loc 0 1)) (bl := []) (by kernel_rfl) ((op_faddr rfl (y := (.loc 0 0)) (k := 1) (by kernel_rfl) (by kernel_rfl) (by kernel_rfl)).cast (by kernel_rfl)) ?_
  refine Walk.yes (val := (.d (.lit (.int .i64 (p : Int))))) (bl := []) (by kernel_rfl) (op_load_at _ rfl (y := (.loc 0 1)) (by kernel_rfl) (xs := [(.d (.lit (.string t))), (.d (.lit (.int .i64 (p : Int)))), (.d (.lit (.int .i64 (0 : Int))))]) (off := 1) (by kernel_rfl) (by kernel_rfl) (by kernel_rfl)) ?_
  refine Walk.yes (val := (.loc 0 1)) (bl := []) (by kernel_rfl) ((op_faddr rfl (y := (.loc 0 0)) (k := 1) (by kernel_rfl) (by kernel_rfl) (by kernel_rfl)).cast (by kernel_rfl)) ?_
  refine Walk.yes (val := (.d (.lit (.int .i64 (p : Int))))) (bl := []) (by kernel_rfl) (op_load_at _ rfl (y := (.loc 0 1)) (by kernel_rfl) (xs := [(.d (.lit (.string t))), (.d (.lit (.int .i64 (p : Int)))), (.d (.lit (.int .i64 (0 : Int))))]) (off := 1) (by kernel_rfl) (by kernel_rfl) (by kernel_rfl)) ?_
  refine Walk.yes (val := (.d (.lit (.int .i64 ((n : Nat) : Int))))) (bl := []) (by kernel_rfl) ((op_move rfl).cast (by kernel_rfl)) ?_
  refine Walk.yes (val := (.d (.lit (.int .i64 ((p : Int) + ((n : Nat) : Int)))))) (bl := []) (by kernel_rfl) (((op_bin rfl (a1 := (.int .i64 (p : Int))) (a2 := (.int .i64 ((n : Nat) : Int))) (by kernel_rfl) (by kernel_rfl) (fun _ => hb_add))).cast (lit_i64 (by first | rfl | omega | (simp; done)) (by omega) (by omega))) ?_
  refine Walk.yes (val := (.d (.lit (.string (t.extract p (p + n)))))) (bl := []) (by kernel_rfl) (op_slice_str rfl (by kernel_rfl) (by kernel_rfl) (l := p) (h := p + n) (⟨.i64, (p : Int), by kernel_rfl, by omega⟩) (⟨.i64, ((p : Int) + ((n : Nat) : Int)), by kernel_rfl, by omega⟩) (by first | omega | (simp; done) | (simp; omega)) (by first | omega | (simp; done) | (simp; omega))) ?_
  refine Walk.yes (val := (.d (.sl ((t.extract p (p + n)).size) (bytesD ((t.extract p (p + n)).data.toList))))) (bl := []) (by kernel_rfl) (op_bytes rfl (e := 5) (by kernel_rfl) (by kernel_rfl) (by kernel_rfl) (by kernel_rfl) (by unfold maxLen; omega)) ?_
  refine Walk.yes (val := (.d (.lit (.int .i64 (((t.extract p (p + n)).size : Nat) : Int))))) (bl := []) (by kernel_rfl) (op_len rfl (e := 5) (by kernel_rfl) (y := (.d (.sl ((t.extract p (p + n)).size) (bytesD ((t.extract p (p + n)).data.toList))))) (by kernel_rfl) (ds := (bytesD ((t.extract p (p + n)).data.toList))) (off := 0) (by kernel_rfl)) ?_
  refine Walk.yes (val := (.d (.lit (.int .i64 0)))) (bl := []) (by kernel_rfl) ((op_move rfl).cast (by kernel_rfl)) ?_
  refine Walk.to_ (st' := ⟨[(.agg [(.d (.lit (.string t))), (.d (.lit (.int .i64 (p : Int)))), (.d (.lit (.int .i64 (0 : Int))))]), (.d (.lit (.int .i64 ((n : Nat) : Int)))), (.loc 0 0), (.tup []), (.loc 1 0), (.d (.lit (.int .u64 0))), (.d (.lit (.int .u64 0))), (.tup []), (.tup []), (.loc 0 2), (.d (.lit (.int .i64 (0 : Int)))), (.d (.lit (.bool false))), (.d (.lit (.bool false))), (.agg [(.d (.lit (.string t))), (.d (.lit (.int .i64 (p : Int)))), (.d (.lit (.int .i64 (0 : Int))))]), (.d (.lit (.int .i64 (leftI t (p : Int))))), (.d (.lit (.int .i64 ((n : Nat) : Int)))), (.d (.lit (.bool false))), (.d (.lit (.bool false))), (.tup []), (.tup []), (.loc 0 0), (.d (.lit (.string t))), (.loc 0 1), (.d (.lit (.int .i64 (p : Int)))), (.loc 0 1), (.d (.lit (.int .i64 (p : Int)))), (.d (.lit (.int .i64 ((n : Nat) : Int)))), (.d (.lit (.int .i64 ((p : Int) + ((n : Nat) : Int))))), (.d (.lit (.string (t.extract p (p + n))))), (.d (.sl ((t.extract p (p + n)).size) (bytesD ((t.extract p (p + n)).data.toList)))), (.d (.lit (.int .i64 (((t.extract p (p + n)).size : Nat) : Int)))), (.d (.lit (.int .i64 0))), (.tup []), (.tup []), (.tup []), (.tup []), (.tup []), (.tup []), (.tup []), (.tup []), (.tup []), (.tup []), (.tup []), (.tup []), (.tup []), (.tup []), (.tup []), (.tup [])], [(.box [(.d (.lit (.string t))), (.d (.lit (.int .i64 (p : Int)))), (.d (.lit (.int .i64 (0 : Int))))]), (.box [(.d (.lit (.string ⟨#[]⟩))), (.d (.lit (.int .i64 0))), (.d (.lit (.int .i64 0)))])], 0⟩) (by kernel_rfl) ?_
  refine Walk.nil ?_
  refine Then.normal ?_
  refine AWP.block ?_
  refine AWP.loopI (α := Nat)
    (fun (x : Nat) => match x with | i => (⟨[(.agg [(.d (.lit (.string t))), (.d (.lit (.int .i64 (p : Int)))), (.d (.lit (.int .i64 (0 : Int))))]), (.d (.lit (.int .i64 ((n : Nat) : Int)))), (.loc 0 0), (.tup []), (.loc 1 0), (.d (.lit (.int .u64 0))), (.d (.lit (.int .u64 ((ben ((cutL t p n).take i) 0 : Nat) : Int)))), (.tup []), .top, (.loc 0 2), (.d (.lit (.int .i64 (0 : Int)))), (.d (.lit (.bool false))), (.d (.lit (.bool false))), (.agg [(.d (.lit (.string t))), (.d (.lit (.int .i64 (p : Int)))), (.d (.lit (.int .i64 (0 : Int))))]), (.d (.lit (.int .i64 (leftI t (p : Int))))), (.d (.lit (.int .i64 ((n : Nat) : Int)))), (.d (.lit (.bool false))), (.d (.lit (.bool false))), (.tup []), (.tup []), (.loc 0 0), (.d (.lit (.string t))), (.loc 0 1), (.d (.lit (.int .i64 (p : Int)))), (.loc 0 1), (.d (.lit (.int .i64 (p : Int)))), (.d (.lit (.int .i64 ((n : Nat) : Int)))), (.d (.lit (.int .i64 ((p : Int) + ((n : Nat) : Int))))), (.d (.lit (.string (t.extract p (p + n))))), (.d (.sl ((t.extract p (p + n)).size) (bytesD ((t.extract p (p + n)).data.toList)))), (.d (.lit (.int .i64 (((t.extract p (p + n)).size : Nat) : Int)))), (.d (.lit (.int .i64 ((i : Nat) : Int)))), .top, .top, .top, .top, .top, .top, .top, .top, .top, (.tup []), (.tup []), (.tup []), (.tup []), (.tup []), (.tup []), (.tup [])], [(.box [(.d (.lit (.string t))), (.d (.lit (.int .i64 (p : Int)))), (.d (.lit (.int .i64 (0 : Int))))]), (.box [(.d (.lit (.string ⟨#[]⟩))), (.d (.lit (.int .i64 0))), (.d (.lit (.int .i64 0)))])], 0⟩ : St))
    (fun (x : Nat) => match x with | i => i ≤ n)
    (fun (x : Nat) => match x with | i => n - i)
    0
    (Weak.to' (st' := _) [0, 1] rfl (by kernel_rfl) rfl ⟨Nat.le_of_ble_eq_true rfl, rfl⟩ (⟨⟨.inr (by kernel_rfl), .inr (by kernel_rfl), .inr (by kernel_rfl), trivial⟩, ⟨.inr (by kernel_rfl), .inr (by kernel_rfl), .inr (by kernel_rfl), trivial⟩, trivial⟩) (⟨.inr (by kernel_rfl), .inr (by kernel_rfl), .inr (by kernel_rfl), .inr (by kernel_rfl), .inr (by kernel_rfl), .inr (by kernel_rfl), .inr (by first | rfl | exact ren_int (by first | rfl | omega | (simp; done)) | exact ren_eq (by simp)), .inr (by kernel_rfl), .inl rfl, .inr (by kernel_rfl), .inr (by kernel_rfl), .inr (by kernel_rfl), .inr (by kernel_rfl), .inr (by kernel_rfl), .inr (by kernel_rfl), .inr (by kernel_rfl), .inr (by kernel_rfl), .inr (by kernel_rfl), .inr (by kernel_rfl), .inr (by kernel_rfl), .inr (by kernel_rfl), .inr (by kernel_rfl), .inr (by kernel_rfl), .inr (by kernel_rfl), .inr (by kernel_rfl), .inr (by kernel_rfl), .inr (by kernel_rfl), .inr (by kernel_rfl), .inr (by kernel_rfl), .inr (by kernel_rfl), .inr (by kernel_rfl), .inr (by first | rfl | exact ren_int (by first | rfl | omega | (simp; done)) | exact ren_eq (by simp)), .inl rfl, .inl rfl, .inl rfl, .inl rfl, .inl rfl, .inl rfl, .inl rfl, .inl rfl, .inl rfl, .inr (by kernel_rfl), .inr (by kernel_rfl), .inr (by kernel_rfl), .inr (by kernel_rfl), .inr (by kernel_rfl), .inr (by kernel_rfl), .inr (by kernel_rfl), trivial⟩))
    (Nat.zero_le _) ?_
  rintro i n_1 hI_1 ih_1
  dsimp only at hI_1 ih_1 ⊢
  have hb := fun h => ben_take_lt (cutL t p n) (i := i) h
  have hbs := ((cutL t p n).getD i 0).toNat_lt
  refine AWP.seq ?_
  refine AWP.text ?_
  by_cases h1 : i < ((t.extract p (p + n)).size)
  · refine Walk.yes (val := (.d (.lit (.bool true)))) (bl := []) (by kernel_rfl) (((op_bin rfl (a1 := (.int .i64 ((i : Nat) : Int))) (a2 := (.int .i64 (((t.extract p (p + n)).size : Nat) : Int))) (by kernel_rfl) (by kernel_rfl) (fun _ => hb_lss))).cast (lit_T (by have := (h1); omega))) ?_
    refine Walk.to_ (st' := ⟨[(.agg [(.d (.lit (.string t))), (.d (.lit (.int .i64 (p : Int)))), (.d (.lit (.int .i64 (0 : Int))))]), (.d (.lit (.int .i64 ((n : Nat) : Int)))), (.loc 0 0), (.tup []), (.loc 1 0), (.d (.lit (.int .u64 0))), (.d (.lit (.int .u64 ((ben ((cutL t p n).take i) 0 : Nat) : Int)))), (.tup []), .top, (.loc 0 2), (.d (.lit (.int .i64 (0 : Int)))), (.d (.lit (.bool false))), (.d (.lit (.bool false))), (.agg [(.d (.lit (.string t))), (.d (.lit (.int .i64 (p : Int)))), (.d (.lit (.int .i64 (0 : Int))))]), (.d (.lit (.int .i64 (leftI t (p : Int))))), (.d (.lit (.int .i64 ((n : Nat) : Int)))), (.d (.lit (.bool false))), (.d (.lit (.bool false))), (.tup []), (.tup []), (.loc 0 0), (.d (.lit (.string t))), (.loc 0 1), (.d (.lit (.int .i64 (p : Int)))), (.loc 0 1), (.d (.lit (.int .i64 (p : Int)))), (.d (.lit (.int .i64 ((n : Nat) : Int)))), (.d (.lit (.int .i64 ((p : Int) + ((n : Nat) : Int))))), (.d (.lit (.string (t.extract p (p + n))))), (.d (.sl ((t.extract p (p + n)).size) (bytesD ((t.extract p (p + n)).data.toList)))), (.d (.lit (.int .i64 (((t.extract p (p + n)).size : Nat) : Int)))), (.d (.lit (.int .i64 ((i : Nat) : Int)))), (.d (.lit (.bool true))), .top, .top, .top, .top, .top, .top, .top, .top, (.tup []), (.tup []), (.tup []), (.tup []), (.tup []), (.tup []), (.tup [])], [(.box [(.d (.lit (.string t))), (.d (.lit (.int .i64 (p : Int)))), (.d (.lit (.int .i64 (0 : Int))))]), (.box [(.d (.lit (.string ⟨#[]⟩))), (.d (.lit (.int .i64 0))), (.d (.lit (.int .i64 0)))])], 0⟩) (by kernel_rfl) ?_
    refine Walk.nil ?_
    refine Then.normal ?_
    refine AWP.seq ?_
    refine AWP.if_ true (by kernel_rfl) ?_
    refine AWP.skip ?_
    refine Then.normal ?_
    refine AWP.seq ?_
    refine AWP.block ?_
    refine AWP.seq ?_
    refine AWP.text ?_
    refine Walk.yes (val := (.d (.ref (List.drop (i * 1) (bytesD ((t.extract p (p + n)).data.toList)))))) (bl := []) (by kernel_rfl) ((op_iaddr rfl (y := (.d (.sl ((t.extract p (p + n)).size) (bytesD ((t.extract p (p + n)).data.toList))))) (by kernel_rfl) (ds := (bytesD ((t.extract p (p + n)).data.toList))) (off := 0) (n := ((t.extract p (p + n)).size)) (by kernel_rfl) (e := 5) (sz := 1) (by kernel_rfl) (k := .i64) (iv := ((i : Nat) : Int)) (by kernel_rfl) (i := i) (rfl) (by first | omega | (simp; done) | (simp; omega))).cast (by kernel_rfl)) ?_
    refine Walk.yes (val := (.d (.lit (.int .u8 ((((cutL t p n).getD i 0).toNat : Nat) : Int))))) (bl := []) (by kernel_rfl) (op_load_at (.d (.lit (.int .u8 ((((cutL t p n).getD i 0).toNat : Nat) : Int)))) rfl (y := (.d (.ref (List.drop (i * 1) (bytesD ((t.extract p (p + n)).data.toList)))))) (by kernel_rfl) rfl (by kernel_rfl) (byt_ref_at (getDv 0 (show i < (cutL t p n).length by omega)))) ?_
    refine Walk.yes (val := (.d (.lit (.int .u8 ((((cutL t p n).getD i 0).toNat : Nat) : Int))))) (bl := []) (by kernel_rfl) ((op_move rfl).cast (by kernel_rfl)) ?_
    refine Walk.to_ (st' := ⟨[(.agg [(.d (.lit (.string t))), (.d (.lit (.int .i64 (p : Int)))), (.d (.lit (.int .i64 (0 : Int))))]), (.d (.lit (.int .i64 ((n : Nat) : Int)))), (.loc 0 0), (.tup []), (.loc 1 0), (.d (.lit (.int .u64 0))), (.d (.lit (.int .u64 ((ben ((cutL t p n).take i) 0 : Nat) : Int)))), (.tup []), (.d (.lit (.int .u8 ((((cutL t p n).getD i 0).toNat : Nat) : Int)))), (.loc 0 2), (.d (.lit (.int .i64 (0 : Int)))), (.d (.lit (.bool false))), (.d (.lit (.bool false))), (.agg [(.d (.lit (.string t))), (.d (.lit (.int .i64 (p : Int)))), (.d (.lit (.int .i64 (0 : Int))))]), (.d (.lit (.int .i64 (leftI t (p : Int))))), (.d (.lit (.int .i64 ((n : Nat) : Int)))), (.d (.lit (.bool false))), (.d (.lit (.bool false))), (.tup []), (.tup []), (.loc 0 0), (.d (.lit (.string t))), (.loc 0 1), (.d (.lit (.int .i64 (p : Int)))), (.loc 0 1), (.d (.lit (.int .i64 (p : Int)))), (.d (.lit (.int .i64 ((n : Nat) : Int)))), (.d (.lit (.int .i64 ((p : Int) + ((n : Nat) : Int))))), (.d (.lit (.string (t.extract p (p + n))))), (.d (.sl ((t.extract p (p + n)).size) (bytesD ((t.extract p (p + n)).data.toList)))), (.d (.lit (.int .i64 (((t.extract p (p + n)).size : Nat) : Int)))), (.d (.lit (.int .i64 ((i : Nat) : Int)))), (.d (.lit (.bool true))), (.d (.ref (List.drop (i * 1) (bytesD ((t.extract p (p + n)).data.toList))))), (.d (.lit (.int .u8 ((((cutL t p n).getD i 0).toNat : Nat) : Int)))), .top, .top, .top, .top, .top, .top, (.tup []), (.tup []), (.tup []), (.tup []), (.tup []), (.tup []), (.tup [])], [(.box [(.d (.lit (.string t))), (.d (.lit (.int .i64 (p : Int)))), (.d (.lit (.int .i64 (0 : Int))))]), (.box [(.d (.lit (.string ⟨#[]⟩))), (.d (.lit (.int .i64 0))), (.d (.lit (.int .i64 0)))])], 0⟩) (by kernel_rfl) ?_
    refine Walk.nil ?_
    refine Then.normal ?_
    refine AWP.text ?_
    refine Walk.yes (val := (.d (.lit (.int .u64 ((ben ((cutL t p n).take i) 0 : Nat) : Int))))) (bl := []) (by kernel_rfl) ((op_move rfl).cast (by kernel_rfl)) ?_
    refine Walk.yes (val := (.d (.lit (.int .u64 ((ben ((cutL t p n).take i) 0 * 256 : Nat) : Int))))) (bl := []) (by kernel_rfl) (((op_bin rfl (a1 := (.int .u64 ((ben ((cutL t p n).take i) 0 : Nat) : Int))) (a2 := (.int .u64 8)) (by kernel_rfl) (by kernel_rfl) (fun _ => hb_shl (n := 8) (by decide) rfl))).cast (lit_u64 rfl (by omega) (by omega))) ?_
    refine Walk.yes (val := (.d (.lit (.int .u8 ((((cutL t p n).getD i 0).toNat : Nat) : Int))))) (bl := []) (by kernel_rfl) ((op_move rfl).cast (by kernel_rfl)) ?_
    refine Walk.yes (val := (.d (.lit (.int .u64 ((((cutL t p n).getD i 0).toNat : Nat) : Int))))) (bl := []) (by kernel_rfl) ((op_convert rfl (a1 := (.int .u8 ((((cutL t p n).getD i 0).toNat : Nat) : Int))) (by kernel_rfl) (run_conv (ds := .int .u8) (k' := .u64) (by kernel_rfl) (by kernel_rfl))).cast (lit_u64 rfl (by omega) (by omega))) ?_
    refine Walk.yes (val := (.d (.lit (.int .u64 ((ben ((cutL t p n).take (i + 1)) 0 : Nat) : Int))))) (bl := []) (by kernel_rfl) (((op_bin rfl (a1 := (.int .u64 ((ben ((cutL t p n).take i) 0 * 256 : Nat) : Int))) (a2 := (.int .u64 ((((cutL t p n).getD i 0).toNat : Nat) : Int))) (by kernel_rfl) (by kernel_rfl) (fun _ => hb_or))).cast (lit_or (by omega) (by omega) (by rw [or_add _ _ hbs, ben_step (by omega)]))) ?_
    refine Walk.yes (val := (.d (.lit (.int .u64 ((ben ((cutL t p n).take (i + 1)) 0 : Nat) : Int))))) (bl := []) (by kernel_rfl) ((op_move rfl).cast (by kernel_rfl)) ?_
    refine Walk.to_ (st' := ⟨[(.agg [(.d (.lit (.string t))), (.d (.lit (.int .i64 (p : Int)))), (.d (.lit (.int .i64 (0 : Int))))]), (.d (.lit (.int .i64 ((n : Nat) : Int)))), (.loc 0 0), (.tup []), (.loc 1 0), (.d (.lit (.int .u64 0))), (.d (.lit (.int .u64 ((ben ((cutL t p n).take (i + 1)) 0 : Nat) : Int)))), (.tup []), (.d (.lit (.int .u8 ((((cutL t p n).getD i 0).toNat : Nat) : Int)))), (.loc 0 2), (.d (.lit (.int .i64 (0 : Int)))), (.d (.lit (.bool false))), (.d (.lit (.bool false))), (.agg [(.d (.lit (.string t))), (.d (.lit (.int .i64 (p : Int)))), (.d (.lit (.int .i64 (0 : Int))))]), (.d (.lit (.int .i64 (leftI t (p : Int))))), (.d (.lit (.int .i64 ((n : Nat) : Int)))), (.d (.lit (.bool false))), (.d (.lit (.bool false))), (.tup []), (.tup []), (.loc 0 0), (.d (.lit (.string t))), (.loc 0 1), (.d (.lit (.int .i64 (p : Int)))), (.loc 0 1), (.d (.lit (.int .i64 (p : Int)))), (.d (.lit (.int .i64 ((n : Nat) : Int)))), (.d (.lit (.int .i64 ((p : Int) + ((n : Nat) : Int))))), (.d (.lit (.string (t.extract p (p + n))))), (.d (.sl ((t.extract p (p + n)).size) (bytesD ((t.extract p (p + n)).data.toList)))), (.d (.lit (.int .i64 (((t.extract p (p + n)).size : Nat) : Int)))), (.d (.lit (.int .i64 ((i : Nat) : Int)))), (.d (.lit (.bool true))), (.d (.ref (List.drop (i * 1) (bytesD ((t.extract p (p + n)).data.toList))))), (.d (.lit (.int .u8 ((((cutL t p n).getD i 0).toNat : Nat) : Int)))), (.d (.lit (.int .u64 ((ben ((cutL t p n).take i) 0 : Nat) : Int)))), (.d (.lit (.int .u64 ((ben ((cutL t p n).take i) 0 * 256 : Nat) : Int)))), (.d (.lit (.int .u8 ((((cutL t p n).getD i 0).toNat : Nat) : Int)))), (.d (.lit (.int .u64 ((((cutL t p n).getD i 0).toNat : Nat) : Int)))), (.d (.lit (.int .u64 ((ben ((cutL t p n).take (i + 1)) 0 : Nat) : Int)))), .top, (.tup []), (.tup []), (.tup []), (.tup []), (.tup []), (.tup []), (.tup [])], [(.box [(.d (.lit (.string t))), (.d (.lit (.int .i64 (p : Int)))), (.d (.lit (.int .i64 (0 : Int))))]), (.box [(.d (.lit (.string ⟨#[]⟩))), (.d (.lit (.int .i64 0))), (.d (.lit (.int .i64 0)))])], 0⟩) (by kernel_rfl) ?_
    refine Walk.nil ?_
    refine InBlock.normal ?_
    refine Then.normal ?_
    refine AWP.text ?_
    refine Walk.yes (val := (.d (.lit (.int .i64 ((i + 1 : Nat) : Int))))) (bl := []) (by kernel_rfl) (((op_bin rfl (a1 := (.int .i64 ((i : Nat) : Int))) (a2 := (.int .i64 1)) (by kernel_rfl) (by kernel_rfl) (fun _ => hb_add))).cast (lit_i64 (by first | rfl | omega | (simp; done)) (by omega) (by omega))) ?_
    refine Walk.yes (val := (.d (.lit (.int .i64 ((i + 1 : Nat) : Int))))) (bl := []) (by kernel_rfl) ((op_move rfl).cast (by kernel_rfl)) ?_
    refine Walk.to_ (st' := ⟨[(.agg [(.d (.lit (.string t))), (.d (.lit (.int .i64 (p : Int)))), (.d (.lit (.int .i64 (0 : Int))))]), (.d (.lit (.int .i64 ((n : Nat) : Int)))), (.loc 0 0), (.tup []), (.loc 1 0), (.d (.lit (.int .u64 0))), (.d (.lit (.int .u64 ((ben ((cutL t p n).take (i + 1)) 0 : Nat) : Int)))), (.tup []), (.d (.lit (.int .u8 ((((cutL t p n).getD i 0).toNat : Nat) : Int)))), (.loc 0 2), (.d (.lit (.int .i64 (0 : Int)))), (.d (.lit (.bool false))), (.d (.lit (.bool false))), (.agg [(.d (.lit (.string t))), (.d (.lit (.int .i64 (p : Int)))), (.d (.lit (.int .i64 (0 : Int))))]), (.d (.lit (.int .i64 (leftI t (p : Int))))), (.d (.lit (.int .i64 ((n : Nat) : Int)))), (.d (.lit (.bool false))), (.d (.lit (.bool false))), (.tup []), (.tup []), (.loc 0 0), (.d (.lit (.string t))), (.loc 0 1), (.d (.lit (.int .i64 (p : Int)))), (.loc 0 1), (.d (.lit (.int .i64 (p : Int)))), (.d (.lit (.int .i64 ((n : Nat) : Int)))), (.d (.lit (.int .i64 ((p : Int) + ((n : Nat) : Int))))), (.d (.lit (.string (t.extract p (p + n))))), (.d (.sl ((t.extract p (p + n)).size) (bytesD ((t.extract p (p + n)).data.toList)))), (.d (.lit (.int .i64 (((t.extract p (p + n)).size : Nat) : Int)))), (.d (.lit (.int .i64 ((i + 1 : Nat) : Int)))), (.d (.lit (.bool true))), (.d (.ref (List.drop (i * 1) (bytesD ((t.extract p (p + n)).data.toList))))), (.d (.lit (.int .u8 ((((cutL t p n).getD i 0).toNat : Nat) : Int)))), (.d (.lit (.int .u64 ((ben ((cutL t p n).take i) 0 : Nat) : Int)))), (.d (.lit (.int .u64 ((ben ((cutL t p n).take i) 0 * 256 : Nat) : Int)))), (.d (.lit (.int .u8 ((((cutL t p n).getD i 0).toNat : Nat) : Int)))), (.d (.lit (.int .u64 ((((cutL t p n).getD i 0).toNat : Nat) : Int)))), (.d (.lit (.int .u64 ((ben ((cutL t p n).take (i + 1)) 0 : Nat) : Int)))), (.d (.lit (.int .i64 ((i + 1 : Nat) : Int)))), (.tup []), (.tup []), (.tup []), (.tup []), (.tup []), (.tup []), (.tup [])], [(.box [(.d (.lit (.string t))), (.d (.lit (.int .i64 (p : Int)))), (.d (.lit (.int .i64 (0 : Int))))]), (.box [(.d (.lit (.string ⟨#[]⟩))), (.d (.lit (.int .i64 0))), (.d (.lit (.int .i64 0)))])], 0⟩) (by kernel_rfl) ?_
    refine Walk.nil ?_
    refine RoundK.normal ?_
    exact Rounds.weak (Weak.to' (st' := ⟨[(.agg [(.d (.lit (.string t))), (.d (.lit (.int .i64 (p : Int)))), (.d (.lit (.int .i64 (0 : Int))))]), (.d (.lit (.int .i64 ((n : Nat) : Int)))), (.loc 0 0), (.tup []), (.loc 1 0), (.d (.lit (.int .u64 0))), (.d (.lit (.int .u64 ((ben ((cutL t p n).take (i + 1)) 0 : Nat) : Int)))), (.tup []), .top, (.loc 0 2), (.d (.lit (.int .i64 (0 : Int)))), (.d (.lit (.bool false))), (.d (.lit (.bool false))), (.agg [(.d (.lit (.string t))), (.d (.lit (.int .i64 (p : Int)))), (.d (.lit (.int .i64 (0 : Int))))]), (.d (.lit (.int .i64 (leftI t (p : Int))))), (.d (.lit (.int .i64 ((n : Nat) : Int)))), (.d (.lit (.bool false))), (.d (.lit (.bool false))), (.tup []), (.tup []), (.loc 0 0), (.d (.lit (.string t))), (.loc 0 1), (.d (.lit (.int .i64 (p : Int)))), (.loc 0 1), (.d (.lit (.int .i64 (p : Int)))), (.d (.lit (.int .i64 ((n : Nat) : Int)))), (.d (.lit (.int .i64 ((p : Int) + ((n : Nat) : Int))))), (.d (.lit (.string (t.extract p (p + n))))), (.d (.sl ((t.extract p (p + n)).size) (bytesD ((t.extract p (p + n)).data.toList)))), (.d (.lit (.int .i64 (((t.extract p (p + n)).size : Nat) : Int)))), (.d (.lit (.int .i64 (((i + 1) : Nat) : Int)))), .top, .top, .top, .top, .top, .top, .top, .top, .top, (.tup []), (.tup []), (.tup []), (.tup []), (.tup []), (.tup []), (.tup [])], [(.box [(.d (.lit (.string t))), (.d (.lit (.int .i64 (p : Int)))), (.d (.lit (.int .i64 (0 : Int))))]), (.box [(.d (.lit (.string ⟨#[]⟩))), (.d (.lit (.int .i64 0))), (.d (.lit (.int .i64 0)))])], 0⟩) [0, 1] rfl (by kernel_rfl) rfl ⟨Nat.le_of_ble_eq_true rfl, rfl⟩ (⟨⟨.inr (by kernel_rfl), .inr (by kernel_rfl), .inr (by kernel_rfl), trivial⟩, ⟨.inr (by kernel_rfl), .inr (by kernel_rfl), .inr (by kernel_rfl), trivial⟩, trivial⟩) (⟨.inr (by kernel_rfl), .inr (by kernel_rfl), .inr (by kernel_rfl), .inr (by kernel_rfl), .inr (by kernel_rfl), .inr (by kernel_rfl), .inr (by kernel_rfl), .inr (by kernel_rfl), .inl rfl, .inr (by kernel_rfl), .inr (by kernel_rfl), .inr (by kernel_rfl), .inr (by kernel_rfl), .inr (by kernel_rfl), .inr (by kernel_rfl), .inr (by kernel_rfl), .inr (by kernel_rfl), .inr (by kernel_rfl), .inr (by kernel_rfl), .inr (by kernel_rfl), .inr (by kernel_rfl), .inr (by kernel_rfl), .inr (by kernel_rfl), .inr (by kernel_rfl), .inr (by kernel_rfl), .inr (by kernel_rfl), .inr (by kernel_rfl), .inr (by kernel_rfl), .inr (by kernel_rfl), .inr (by kernel_rfl), .inr (by kernel_rfl), .inr (by first | rfl | exact ren_int (by first | rfl | omega | (simp; done)) | exact ren_eq (by simp)), .inl rfl, .inl rfl, .inl rfl, .inl rfl, .inl rfl, .inl rfl, .inl rfl, .inl rfl, .inl rfl, .inr (by kernel_rfl), .inr (by kernel_rfl), .inr (by kernel_rfl), .inr (by kernel_rfl), .inr (by kernel_rfl), .inr (by kernel_rfl), .inr (by kernel_rfl), trivial⟩)) (ih_1 (i + 1) (by omega) (by first | omega | (dsimp only; omega)))
  · refine Walk.yes (val := (.d (.lit (.bool false)))) (bl := []) (by kernel_rfl) (((op_bin rfl (a1 := (.int .i64 ((i : Nat) : Int))) (a2 := (.int .i64 (((t.extract p (p + n)).size : Nat) : Int))) (by kernel_rfl) (by kernel_rfl) (fun _ => hb_lss))).cast (lit_F (by have := (h1); omega))) ?_
    refine Walk.to_ (st' := ⟨[(.agg [(.d (.lit (.string t))), (.d (.lit (.int .i64 (p : Int)))), (.d (.lit (.int .i64 (0 : Int))))]), (.d (.lit (.int .i64 ((n : Nat) : Int)))), (.loc 0 0), (.tup []), (.loc 1 0), (.d (.lit (.int .u64 0))), (.d (.lit (.int .u64 ((ben ((cutL t p n).take i) 0 : Nat) : Int)))), (.tup []), .top, (.loc 0 2), (.d (.lit (.int .i64 (0 : Int)))), (.d (.lit (.bool false))), (.d (.lit (.bool false))), (.agg [(.d (.lit (.string t))), (.d (.lit (.int .i64 (p : Int)))), (.d (.lit (.int .i64 (0 : Int))))]), (.d (.lit (.int .i64 (leftI t (p : Int))))), (.d (.lit (.int .i64 ((n : Nat) : Int)))), (.d (.lit (.bool false))), (.d (.lit (.bool false))), (.tup []), (.tup []), (.loc 0 0), (.d (.lit (.string t))), (.loc 0 1), (.d (.lit (.int .i64 (p : Int)))), (.loc 0 1), (.d (.lit (.int .i64 (p : Int)))), (.d (.lit (.int .i64 ((n : Nat) : Int)))), (.d (.lit (.int .i64 ((p : Int) + ((n : Nat) : Int))))), (.d (.lit (.string (t.extract p (p + n))))), (.d (.sl ((t.extract p (p + n)).size) (bytesD ((t.extract p (p + n)).data.toList)))), (.d (.lit (.int .i64 (((t.extract p (p + n)).size : Nat) : Int)))), (.d (.lit (.int .i64 ((i : Nat) : Int)))), (.d (.lit (.bool false))), .top, .top, .top, .top, .top, .top, .top, .top, (.tup []), (.tup []), (.tup []), (.tup []), (.tup []), (.tup []), (.tup [])], [(.box [(.d (.lit (.string t))), (.d (.lit (.int .i64 (p : Int)))), (.d (.lit (.int .i64 (0 : Int))))]), (.box [(.d (.lit (.string ⟨#[]⟩))), (.d (.lit (.int .i64 0))), (.d (.lit (.int .i64 0)))])], 0⟩) (by kernel_rfl) ?_
    refine Walk.nil ?_
    refine Then.normal ?_
    refine AWP.seq ?_
    refine AWP.if_ false (by kernel_rfl) ?_
    refine AWP.exit ?_
    refine Then.exit ?_
    refine RoundK.exit ?_
    refine InBlock.same ?_
    refine Then.normal ?_
    refine AWP.seq ?_
    refine AWP.text ?_
    refine Walk.yes (val := (.loc 0 1)) (bl := []) (by kernel_rfl) ((op_faddr rfl (y := (.loc 0 0)) (k := 1) (by kernel_rfl) (by kernel_rfl) (by kernel_rfl)).cast (by kernel_rfl)) ?_
    refine Walk.yes (val := (.d (.lit (.int .i64 (p : Int))))) (bl := []) (by kernel_rfl) (op_load_at _ rfl (y := (.loc 0 1)) (by kernel_rfl) (xs := [(.d (.lit (.string t))), (.d (.lit (.int .i64 (p : Int)))), (.d (.lit (.int .i64 (0 : Int))))]) (off := 1) (by kernel_rfl) (by kernel_rfl) (by kernel_rfl)) ?_
    refine Walk.yes (val := (.d (.lit (.int .i64 ((n : Nat) : Int))))) (bl := []) (by kernel_rfl) ((op_move rfl).cast (by kernel_rfl)) ?_
    refine Walk.yes (val := (.d (.lit (.int .i64 ((p : Int) + ((n : Nat) : Int)))))) (bl := []) (by kernel_rfl) (((op_bin rfl (a1 := (.int .i64 (p : Int))) (a2 := (.int .i64 ((n : Nat) : Int))) (by kernel_rfl) (by kernel_rfl) (fun _ => hb_add))).cast (lit_i64 (by first | rfl | omega | (simp; done)) (by omega) (by omega))) ?_
    refine Walk.yes (val := (.loc 0 1)) (bl := []) (by kernel_rfl) ((op_faddr rfl (y := (.loc 0 0)) (k := 1) (by kernel_rfl) (by kernel_rfl) (by kernel_rfl)).cast (by kernel_rfl)) ?_
    refine Walk.yes (val := (.tup [])) (bl := [(0, (.box [(.d (.lit (.string t))), (.d (.lit (.int .i64 ((p : Int) + ((n : Nat) : Int))))), (.d (.lit (.int .i64 (0 : Int))))]))]) (by kernel_rfl) ((op_store rfl (id := 0) (off := 1) (xs := [(.d (.lit (.string t))), (.d (.lit (.int .i64 (p : Int)))), (.d (.lit (.int .i64 (0 : Int))))]) (ys := [(.d (.lit (.int .i64 ((p : Int) + ((n : Nat) : Int)))))]) (v := (.d (.lit (.int .i64 ((p : Int) + ((n : Nat) : Int)))))) (by kernel_rfl) (by kernel_rfl) (by kernel_rfl) (by kernel_rfl) (by kernel_rfl) (Nat.le_of_ble_eq_true rfl)).castB (by kernel_rfl)) ?_
    refine Walk.to_ (st' := ⟨[(.agg [(.d (.lit (.string t))), (.d (.lit (.int .i64 (p : Int)))), (.d (.lit (.int .i64 (0 : Int))))]), (.d (.lit (.int .i64 ((n : Nat) : Int)))), (.loc 0 0), (.tup []), (.loc 1 0), (.d (.lit (.int .u64 0))), (.d (.lit (.int .u64 ((ben ((cutL t p n).take i) 0 : Nat) : Int)))), (.tup []), .top, (.loc 0 2), (.d (.lit (.int .i64 (0 : Int)))), (.d (.lit (.bool false))), (.d (.lit (.bool false))), (.agg [(.d (.lit (.string t))), (.d (.lit (.int .i64 (p : Int)))), (.d (.lit (.int .i64 (0 : Int))))]), (.d (.lit (.int .i64 (leftI t (p : Int))))), (.d (.lit (.int .i64 ((n : Nat) : Int)))), (.d (.lit (.bool false))), (.d (.lit (.bool false))), (.tup []), (.tup []), (.loc 0 0), (.d (.lit (.string t))), (.loc 0 1), (.d (.lit (.int .i64 (p : Int)))), (.loc 0 1), (.d (.lit (.int .i64 (p : Int)))), (.d (.lit (.int .i64 ((n : Nat) : Int)))), (.d (.lit (.int .i64 ((p : Int) + ((n : Nat) : Int))))), (.d (.lit (.string (t.extract p (p + n))))), (.d (.sl ((t.extract p (p + n)).size) (bytesD ((t.extract p (p + n)).data.toList)))), (.d (.lit (.int .i64 (((t.extract p (p + n)).size : Nat) : Int)))), (.d (.lit (.int .i64 ((i : Nat) : Int)))), (.d (.lit (.bool false))), .top, .top, .top, .top, .top, .top, .top, .top, (.loc 0 1), (.d (.lit (.int .i64 (p : Int)))), (.d (.lit (.int .i64 ((n : Nat) : Int)))), (.d (.lit (.int .i64 ((p : Int) + ((n : Nat) : Int))))), (.loc 0 1), (.tup []), (.tup [])], [(.box [(.d (.lit (.string t))), (.d (.lit (.int .i64 ((p : Int) + ((n : Nat) : Int))))), (.d (.lit (.int .i64 (0 : Int))))]), (.box [(.d (.lit (.string ⟨#[]⟩))), (.d (.lit (.int .i64 0))), (.d (.lit (.int .i64 0)))])], 0⟩) (by kernel_rfl) ?_
    refine Walk.nil ?_
    refine Then.normal ?_
    refine AWP.seq ?_
    refine AWP.text ?_
    refine Walk.yes (val := (.agg [(.d (.lit (.string t))), (.d (.lit (.int .i64 ((p : Int) + ((n : Nat) : Int))))), (.d (.lit (.int .i64 (0 : Int))))])) (bl := []) (by kernel_rfl) (op_load rfl (y := (.loc 0 0)) (by kernel_rfl) (xs := [(.d (.lit (.string t))), (.d (.lit (.int .i64 ((p : Int) + ((n : Nat) : Int))))), (.d (.lit (.int .i64 (0 : Int))))]) (off := 0) (by kernel_rfl) (by kernel_rfl)) ?_
    refine Walk.yes (val := (.d (.lit (.int .u64 ((ben ((cutL t p n).take i) 0 : Nat) : Int))))) (bl := []) (by kernel_rfl) ((op_move rfl).cast (by kernel_rfl)) ?_
    refine Walk.yes (val := (.tup [])) (bl := [(1, (.box [(.d (.lit (.string t))), (.d (.lit (.int .i64 ((p : Int) + ((n : Nat) : Int))))), (.d (.lit (.int .i64 (0 : Int))))]))]) (by kernel_rfl) ((op_store rfl (id := 1) (off := 0) (xs := [(.d (.lit (.string ⟨#[]⟩))), (.d (.lit (.int .i64 0))), (.d (.lit (.int .i64 0)))]) (ys := [(.d (.lit (.string t))), (.d (.lit (.int .i64 ((p : Int) + ((n : Nat) : Int))))), (.d (.lit (.int .i64 (0 : Int))))]) (v := (.agg [(.d (.lit (.string t))), (.d (.lit (.int .i64 ((p : Int) + ((n : Nat) : Int))))), (.d (.lit (.int .i64 (0 : Int))))])) (by kernel_rfl) (by kernel_rfl) (by kernel_rfl) (by kernel_rfl) (by kernel_rfl) (Nat.le_of_ble_eq_true rfl)).castB (by kernel_rfl)) ?_
    refine Walk.yes (val := (.d (.lit (.int .u64 ((ben ((cutL t p n).take i) 0 : Nat) : Int))))) (bl := []) (by kernel_rfl) ((op_move rfl).cast (by kernel_rfl)) ?_
    refine Walk.to_ (st' := ⟨[(.agg [(.d (.lit (.string t))), (.d (.lit (.int .i64 (p : Int)))), (.d (.lit (.int .i64 (0 : Int))))]), (.d (.lit (.int .i64 ((n : Nat) : Int)))), (.loc 0 0), (.tup []), (.loc 1 0), (.d (.lit (.int .u64 ((ben ((cutL t p n).take i) 0 : Nat) : Int)))), (.d (.lit (.int .u64 ((ben ((cutL t p n).take i) 0 : Nat) : Int)))), (.tup []), .top, (.loc 0 2), (.d (.lit (.int .i64 (0 : Int)))), (.d (.lit (.bool false))), (.d (.lit (.bool false))), (.agg [(.d (.lit (.string t))), (.d (.lit (.int .i64 (p : Int)))), (.d (.lit (.int .i64 (0 : Int))))]), (.d (.lit (.int .i64 (leftI t (p : Int))))), (.d (.lit (.int .i64 ((n : Nat) : Int)))), (.d (.lit (.bool false))), (.d (.lit (.bool false))), (.tup []), (.tup []), (.loc 0 0), (.d (.lit (.string t))), (.loc 0 1), (.d (.lit (.int .i64 (p : Int)))), (.loc 0 1), (.d (.lit (.int .i64 (p : Int)))), (.d (.lit (.int .i64 ((n : Nat) : Int)))), (.d (.lit (.int .i64 ((p : Int) + ((n : Nat) : Int))))), (.d (.lit (.string (t.extract p (p + n))))), (.d (.sl ((t.extract p (p + n)).size) (bytesD ((t.extract p (p + n)).data.toList)))), (.d (.lit (.int .i64 (((t.extract p (p + n)).size : Nat) : Int)))), (.d (.lit (.int .i64 ((i : Nat) : Int)))), (.d (.lit (.bool false))), .top, .top, .top, .top, .top, .top, .top, .top, (.loc 0 1), (.d (.lit (.int .i64 (p : Int)))), (.d (.lit (.int .i64 ((n : Nat) : Int)))), (.d (.lit (.int .i64 ((p : Int) + ((n : Nat) : Int))))), (.loc 0 1), (.agg [(.d (.lit (.string t))), (.d (.lit (.int .i64 ((p : Int) + ((n : Nat) : Int))))), (.d (.lit (.int .i64 (0 : Int))))]), (.d (.lit (.int .u64 ((ben ((cutL t p n).take i) 0 : Nat) : Int))))], [(.box [(.d (.lit (.string t))), (.d (.lit (.int .i64 ((p : Int) + ((n : Nat) : Int))))), (.d (.lit (.int .i64 (0 : Int))))]), (.box [(.d (.lit (.string t))), (.d (.lit (.int .i64 ((p : Int) + ((n : Nat) : Int))))), (.d (.lit (.int .i64 (0 : Int))))])], 0⟩) (by kernel_rfl) ?_
    refine Walk.nil ?_
    refine Then.normal ?_
    refine AWP.ret ?_
    exact ret_intro [] [(.agg [(.d (.lit (.string t))), (.d (.lit (.int .i64 ((p : Int) + ((n : Nat) : Int))))), (.d (.lit (.int .i64 (0 : Int))))]), (.d (.lit (.int .u64 ((ben ((cutL t p n).take i) 0 : Nat) : Int))))] (by kernel_rfl) (ren_as (r' := (.tup [(.agg [(.d (.lit (.string t))), (.d (.lit (.int .i64 ((p : Int) + ((n : Nat) : Int))))), (.d (.lit (.int .i64 (0 : Int))))]), (.d (.lit (.int .u64 ((ben ((cutL t p n).take i) 0 : Nat) : Int))))])) (by have hi : i = n := (by omega); subst hi; rw [List.take_of_length_le (by omega)]; rfl) (by kernel_rfl)) (trivial) (by kernel_rfl) ⟨Nat.le_of_ble_eq_true rfl, rfl⟩
theorem take_f (t : ByteArray) (a e : Int) (n : Nat) (h1 : 1 ≤ n) (h8 : n ≤ 8) (ht : t.size ≤ 1099511627776) : GCall Try.prog 30 [(.agg [(.d (.lit (.string t))), (.d (.lit (.int .i64 a))), (.d (.lit (.int .i64 e)))]), (.d (.lit (.int .i64 ((n : Nat) : Int))))] [] (.tup [(.agg [(.d (.lit (.string t))), (.d (.lit (.int .i64 (takeA t a e n)))), (.d (.lit (.int .i64 (takeE t a e n))))]), (.d (.lit (.int .u64 (((takeV t a e n) : Nat) : Int))))]) [] := by
  by_cases he : e = 0
  · by_cases hl : leftI t a < n
    · exact take_cut t a e n h1 h8 ht he hl
    · obtain ⟨p, rfl, hp⟩ := leftI_ok (t := t) (a := a) h1 (by omega)
      subst he
      obtain ⟨e1, e2, e3⟩ := take_good hp
      rw [e1, e2, e3]
      exact take_ok t p n h1 h8 ht hp
  · exact take_e t a e n h1 h8 ht he
end Go.Proofs.Ytfklpnaklhcobaa.K
