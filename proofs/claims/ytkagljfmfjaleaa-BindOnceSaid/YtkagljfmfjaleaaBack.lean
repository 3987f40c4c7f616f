/- slices.Backward over pairs; bind.Last: walks. -/
import Derived.RangeFuncNested
import Derived.RangeFuncBound
import Derived.RangeFuncCalls
import Derived.RangeFuncLeaves
import Derived.RangeFuncBox
import Derived.Shelf.Abstract
import Derived.Shelf.RegionOpen
import Derived.WalkKit
import Derived.OwnWalkIn
import Derived.TacticsInMore
import Derived.LoopNIn
import Derived.LoopIn
import Derived.DataElems
import Derived.Test.YtkagljfmfjaleaaChecked
namespace Go.Proofs.Ytkagljfmfjaleaa.B
open Go.RowKit Go.Shelf
attribute [local go_sem] Oper.semAt_some
def upto {α : Type} (f : Nat → α) (k : Nat) : List α := (List.range k).map f
theorem upto_succ {α : Type} (f : Nat → α) (k : Nat) : upto f (k + 1) = upto f k ++ [f k] := by simp [upto, List.range_succ]
theorem upto_length {α : Type} (f : Nat → α) (k : Nat) : (upto f k).length = k := by simp [upto]
theorem K_add_block (q : Addr) (i : Nat) : (q.add i).block = q.block := by unfold Addr.add; split <;> rfl
theorem add_pos (q : Addr) (j : Nat) : q.add (j + 1) = ⟨q.block, q.off + (j + 1), none⟩ := by unfold Addr.add; simp
set_option maxRecDepth 100000 in
set_option maxHeartbeats 2000000 in
/-- The closure: 'for i := len(s) - 1; i >= 0; i-- { if !yield(i, s[i]) { return } }'. -/
theorem back1_in (F : Fence) (n : Nat) (h8 : F.fn 60) (hro : F.round = none) (hn : 1 ≤ n) (l Bs n₀ len cap : Nat) (p : Addr) (c : Nat → Nat → Value) (hreach : len * 80 ≤ 140737488351232) (hb : p.block < n₀) (J Jx : List Nat → World → Prop)
    (hY : ∀ (pre : List Nat) (x : Nat) W, J pre W → pre.length < len → YieldAt F (n - 1) Try.prog l #[.int .i64 (x : Int), .agg #[c x 0, c x 1, c x 2, c x 3, c x 4, c x 5]] W fun e W' =>
      (e = .returned (.bool true) ∧ J (pre ++ [x]) W' ∧ Below n₀ W W') ∨ (e = .returned (.bool false) ∧ Jx (pre ++ [x]) W'))
    (W : World) (hBs : W.cell? ⟨Bs, 0, none⟩ = some (.slice (some p) len cap)) (hBn : Bs < n₀) (hc : ∀ k j, k < len → j < 6 → W.cell? (p.add (k * 6 + j)) = some (c k j)) (h0 : J [] W) :
    CallsIn F n Try.prog 60 #[.func (.yield l) #[] #[], .pointer (some ⟨Bs, 0, none⟩)] W fun e W' => (∃ v, e = .returned v) ∧
      ((∃ ys, ys = upto (fun j => len - 1 - j) len ∧ J ys W') ∨ (∃ pre, (∃ k, k ≤ len ∧ pre = upto (fun j => len - 1 - j) k) ∧ Jx pre W')) := by
  refine callsIn_of_wp Try.func60 rfl h8 ?_ hro
  simp only [Try.ntmps60, List.size_toArray, List.length_cons, List.length_nil, Nat.reduceAdd, Nat.reduceSub, Array.replicate_succ, Array.replicate_zero, List.push_toArray, List.append_toArray, List.nil_append, List.cons_append]
  gi_wp2
  gi_loopw [3] (fun i wr => ∃ k : Nat, k ≤ len ∧ i = .int .i64 ((len : Int) - 1 - k) ∧ J (upto (fun j => len - 1 - j) k) wr ∧ Below n₀ W wr)
    (fun i _ => (intOf i + 1).toNat)
  case atStart =>
    exact ⟨0, Nat.zero_le _, by simp, h0, Below.refl _ _⟩
  case round =>
    obtain ⟨k, hk, rfl, hJs, hnx⟩ := hrel
    have hBs' := (hnx.cell (p := ⟨Bs, 0, none⟩) hBn).trans hBs
    by_cases hlt : k < len
    · have hcx : ∀ j, j < 6 → wr.cell? (p.add ((len - 1 - k) * 6 + j)) = some (c (len - 1 - k) j) := fun j hj => (hnx.cell (p := p.add ((len - 1 - k) * 6 + j)) (by rw [K_add_block]; exact hb)).trans (hc (len - 1 - k) j (by omega) hj)
      obtain ⟨fn, tmps, assign, body, hy, hR⟩ := hY _ (len - 1 - k) wr hJs (by rw [upto_length]; exact hlt)
      obtain ⟨i, hi⟩ : ∃ i : Nat, len - 1 - k = i := ⟨_, rfl⟩
      rw [hi] at hcx hy
      have hii : (len : Int) - 1 - k = (i : Int) := by omega
      rw [hii]
      have hil : i < len := by omega
      have hap : ∀ j, p.add (i * 6 + (j + 1)) = ⟨(p.add (i * 6)).block, (p.add (i * 6)).off + (j + 1), none⟩ := fun j => by
        rw [← Addr.add_add]; exact add_pos _ _
      have q0 := hcx 0 (by omega)
      have q1 := hcx 1 (by omega)
      have q2 := hcx 2 (by omega)
      have q3 := hcx 3 (by omega)
      have q4 := hcx 4 (by omega)
      have q5 := hcx 5 (by omega)
      rw [Nat.add_zero] at q0
      rw [hap] at q1 q2 q3 q4 q5
      clear hcx hc
      gi_wp2
      refine hR.mono ?_
      rintro e W3 (⟨rfl, hJ3, hk3⟩ | ⟨rfl, hJx3⟩)
      · gi_wp2
        go_roundw
        case rel => exact ⟨k + 1, by omega, by congr 1; omega, by rw [upto_succ]; exact hJ3, hnx.trans hk3⟩
        case measure => simp [intOf]
      · gi_wp2
        refine bodyPost_ret (results_none rfl _ _ _) rfl ?_
        exact ⟨⟨_, rfl⟩, .inr ⟨_, ⟨k + 1, by omega, (upto_succ _ _).symm⟩, hJx3⟩⟩
    · obtain rfl : k = len := by omega
      have hii : (k : Int) - 1 - k = -1 := by omega
      rw [hii]
      gi_wp2
      go_end0
      exact ⟨⟨_, rfl⟩, .inl ⟨_, rfl, hJs⟩⟩
set_option maxRecDepth 100000 in
set_option maxHeartbeats 2000000 in
/-- .. at a slice of none: no round. -/
theorem back1_nil_in (F : Fence) (n : Nat) (h8 : F.fn 60) (hro : F.round = none) (l Bs cap : Nat) (a : Option Addr) (J : List Nat → World → Prop) (W : World) (hBs : W.cell? ⟨Bs, 0, none⟩ = some (.slice a 0 cap)) (h0 : J [] W) :
    CallsIn F n Try.prog 60 #[.func (.yield l) #[] #[], .pointer (some ⟨Bs, 0, none⟩)] W fun e W' => (∃ v, e = .returned v) ∧ J [] W' := by
  refine callsIn_of_wp Try.func60 rfl h8 ?_ hro
  simp only [Try.ntmps60, List.size_toArray, List.length_cons, List.length_nil, Nat.reduceAdd, Nat.reduceSub, Array.replicate_succ, Array.replicate_zero, List.push_toArray, List.append_toArray, List.nil_append, List.cons_append]
  gi_wp2
  gi_loopw [3] (fun i wr => i = .int .i64 (-1) ∧ J [] wr) (fun _ _ => 0)
  case atStart => exact ⟨by simp, h0⟩
  case round =>
    obtain ⟨rfl, hJs⟩ := hrel
    gi_wp2
    go_end0
    exact ⟨⟨_, rfl⟩, hJs⟩
set_option maxHeartbeats 1000000 in
theorem back_in (F : Fence) (n : Nat) (h6 : F.fn 37) (hro : F.round = none) (a : Option Addr) (len cap : Nat) (w : World) :
    CallsIn F n Try.prog 37 #[.slice a len cap] w fun e w' => e = .returned (.func (.func 60) #[] #[.pointer (some ⟨w.heap.size, 0, none⟩)]) ∧ w' = w.alloc (.cells #[.slice a len cap] 31) := by
  refine callsIn_of_wp Try.func37 rfl h6 ?_ hro
  simp only [Try.ntmps37, List.size_toArray, List.length_cons, List.length_nil, Nat.reduceAdd, Nat.reduceSub, Array.replicate_succ, Array.replicate_zero, List.push_toArray, List.append_toArray, List.nil_append, List.cons_append]
  gi_wp2
  go_ret
  exact ⟨rfl, rfl⟩
/-- A slice of pairs, read off memory below n₀. -/
def Pairs (n₀ : Nat) (W : World) (a : Option Addr) (len : Nat) (c : Nat → Nat → Value) : Prop := (a = none → len = 0) ∧ ∀ p, a = some p → 0 < len → p.block < n₀ ∧ ∀ k j, k < len → j < 6 → W.cell? (p.add (k * 6 + j)) = some (c k j)
theorem Pairs.below {n₀ : Nat} {W W' : World} {a : Option Addr} {len : Nat} {c : Nat → Nat → Value} (h : Pairs n₀ W a len c) (hb : Below n₀ W W') : Pairs n₀ W' a len c := ⟨h.1, fun p hp hl => ⟨(h.2 p hp hl).1, fun k j hk hj => (hb.cell (p := p.add (k * 6 + j)) (by rw [K_add_block]; exact (h.2 p hp hl).1)).trans ((h.2 p hp hl).2 k j hk hj)⟩⟩
theorem back_stops (F : Fence) (n : Nat) (h8 : F.fn 60) (hro : F.round = none) (hn : 1 ≤ n) (Bs len cap : Nat) (a : Option Addr) (c : Nat → Nat → Value) (hreach : len * 80 ≤ 140737488351232) (w : World) (hBs : Bs < w.heap.size)
    (hc : w.cell? ⟨Bs, 0, none⟩ = some (.slice a len cap)) (hI : Pairs (Bs + 1) w a len c) :
    SeqStopsK F n Try.prog 60 #[.pointer (some ⟨Bs, 0, none⟩)] (fun x : Nat => #[Value.int .i64 (x : Int), .agg #[c x 0, c x 1, c x 2, c x 3, c x 4, c x 5]]) (Below (Bs + 1)) (fun ys => ys = upto (fun j => len - 1 - j) len)
      (fun pre => ∃ k, k ≤ len ∧ pre = upto (fun j => len - 1 - j) k) len w := fun l J Jx W hW _ _ hY h0 => by
  have hc' := (hW.cell (p := ⟨Bs, 0, none⟩) hBs).trans hc
  by_cases hz : len = 0
  · subst hz
    exact (back1_nil_in F n h8 hro l Bs cap a J W hc' h0).mono fun e W' ⟨he, hj⟩ => ⟨he, .inl ⟨_, rfl, hj⟩⟩
  · cases a with
    | none => exact absurd (hI.1 rfl) hz
    | some p =>
      have hP := (hI.below (hW.mono hBs)).2 p rfl (by omega)
      refine (back1_in F n h8 hro hn l Bs (Bs + 1) len cap p c hreach hP.1 J Jx hY W hc' (Nat.lt_succ_self _) hP.2 h0).mono ?_
      rintro e W' ⟨he, ⟨ys, rfl, hj⟩ | ⟨pre, ⟨k, hk, rfl⟩, hj⟩⟩
      · exact ⟨he, .inl ⟨_, rfl, hj⟩⟩
      · exact ⟨he, .inr ⟨_, ⟨k, hk, rfl⟩, hj⟩⟩
theorem Pairs.mono {n₀ n₁ : Nat} {W : World} {a : Option Addr} {len : Nat} {c : Nat → Nat → Value} (h : Pairs n₀ W a len c) (hn : n₀ ≤ n₁) : Pairs n₁ W a len c := ⟨h.1, fun p hp hl => ⟨Nat.lt_of_lt_of_le (h.2 p hp hl).1 hn, (h.2 p hp hl).2⟩⟩
theorem toList_inj {s u : ByteArray} : s.toList = u.toList ↔ s = u := by
  constructor
  · intro h
    rw [ByteArray.toList_eq, ByteArray.toList_eq] at h
    cases s; cases u; simp at h; simp [h]
  · intro h; rw [h]
/-- A block of cells. -/
def Bx (W : World) (B : Nat) (t : TypeId) (cs : Array Value) : Prop := W.heap[B]? = some (.cells cs t (0, 0))
theorem Bx.new (W : World) (t : TypeId) (cs : Array Value) : Bx (W.alloc (.cells cs t)) W.heap.size t cs := World.alloc_heap_new W _
theorem Bx.lt {W : World} {B : Nat} {t : TypeId} {cs : Array Value} (h : Bx W B t cs) : B < W.heap.size := (Array.getElem?_eq_some_iff.1 h).1
theorem Bx.kept {W W' : World} {row : Option Nat} {B : Nat} {t : TypeId} {cs : Array Value} (h : Bx W B t cs) (hg : W.grownBy W' row) (hne : some B ≠ row) : Bx W' B t cs := (hg.block B h.lt hne).trans h
theorem Bx.alloc {W : World} {B : Nat} {t : TypeId} {cs : Array Value} (h : Bx W B t cs) (o : Obj) : Bx (W.alloc o) B t cs := h.kept (World.grownBy_alloc W o none) (by simp)
theorem Bx.own {X Y : World} {row : Option Nat} {B : Nat} {t : TypeId} {cs : Array Value} (h : Bx X B t cs) (hg : X.grownBy Y row) (hrow : ∀ r, row = some r → ∃ o, X.heap[r]? = some o ∧ o.isCells = false) : Bx Y B t cs :=
  h.kept hg (fun e' => by obtain ⟨o, ho, hc⟩ := hrow B e'.symm; rw [show X.heap[B]? = _ from h] at ho; cases ho; cases hc)
theorem Bx.cell {W : World} {B : Nat} {t : TypeId} {cs : Array Value} (h : Bx W B t cs) (j : Nat) {v : Value} (hj : cs[j]? = some v) : W.cell? ⟨B, j, none⟩ = some v := by simp [World.cell?, show W.heap[B]? = _ from h, hj]
theorem Bx.frozen {W : World} {B : Nat} {t : TypeId} {cs : Array Value} (h : Bx W B t cs) (j : Nat) : W.frozen? ⟨B, j, none⟩ = false := by simp [World.frozen?, show W.heap[B]? = _ from h]
theorem Bx.set {W : World} {B : Nat} {t : TypeId} {cs : Array Value} (h : Bx W B t cs) (j : Nat) (v : Value) : Bx (W.setCell ⟨B, j, none⟩ v) B t (cs.setIfInBounds j v) := by
  obtain ⟨hlt, hk⟩ := Array.getElem?_eq_some_iff.1 h
  show (W.heap.modify B _)[B]? = _
  rw [Array.getElem?_eq_getElem (by rw [Array.size_modify]; exact hlt), Array.getElem_modify_self, hk]
  rfl
theorem Bx.other {W : World} {B : Nat} {t : TypeId} {cs : Array Value} (h : Bx W B t cs) {B' : Nat} (hne : B ≠ B') (j : Nat) (v : Value) : Bx (W.setCell ⟨B', j, none⟩ v) B t cs := (Below.heap_setCell W ⟨B', j, none⟩ v B hne).trans h
set_option maxRecDepth 100000 in
set_option maxHeartbeats 4000000 in
/-- bind.Last: the last pair of that name; or none. -/
theorem last_in (F : Fence) (n : Nat) (h4 : F.fn 10) (h6 : F.fn 37) (h8 : F.fn 60) (hro : F.round = none) (hn : 3 ≤ n) (a : Option Addr) (len cap : Nat) (c : Nat → Nat → Value) (nm ty : Nat → ByteArray) (t1 t2 t3 : Nat → Int) (va : Nat → Option Addr) (vn vc : Nat → Nat) (s : ByteArray) (hc0 : ∀ k, c k 0 = .string (nm k)) (hc1 : ∀ k, c k 1 = .int .i64 (t1 k)) (hc2 : ∀ k, c k 2 = .int .i64 (t2 k)) (hc3 : ∀ k, c k 3 = .int .i64 (t3 k)) (hc4 : ∀ k, c k 4 = .string (ty k)) (hc5 : ∀ k, c k 5 = .slice (va k) (vn k) (vc k)) (hreach : len * 80 ≤ 140737488351232) (w : World) (hI : Pairs w.heap.size w a len c) :
    CallsIn F n Try.prog 10 #[.slice a len cap, .string s] w fun e W' =>
      ((e = .returned (.tuple #[.agg #[.int .i64 0, .int .i64 0, .int .i64 0, .string ⟨#[]⟩, .slice none 0 0], .bool false]) ∧ ∀ j, j < len → nm j ≠ s) ∨
       (∃ k : Nat, k < len ∧ nm k = s ∧ (∀ j, k < j → j < len → nm j ≠ s) ∧ e = .returned (.tuple #[.agg #[.int .i64 (t1 k), .int .i64 (t2 k), .int .i64 (t3 k), .string (ty k), .slice (va k) (vn k) (vc k)], .bool true]))) ∧ Below w.heap.size w W' := by
  have h1 : 1 ≤ n := by omega
  refine callsIn_of_wp_marks Try.func10 rfl h4 ?_ hro
  simp only [Try.ntmps10, List.size_toArray, List.length_cons, List.length_nil, Nat.reduceAdd, Nat.reduceSub, Array.replicate_succ, Array.replicate_zero, List.push_toArray, List.append_toArray, List.nil_append, List.cons_append]
  gi_wp2_with (gi_at_call 37; refine (back_in F (n - 1) h6 hro _ _ _ _).mono ?_; rintro e w' ⟨rfl, rfl⟩)
  obtain ⟨W0, hW0⟩ : ∃ W0, ((((w.alloc (.cells #[.string s] 9)).alloc (.cells #[.int .i64 0, .int .i64 0, .int .i64 0, .string ⟨#[]⟩, .slice none 0 0] 35)).alloc (.cells #[.bool false] 4)).alloc (.cells #[.slice a len cap] 31)) = W0 := ⟨_, rfl⟩
  have hsz : W0.heap.size = w.heap.size + 4 := by rw [← hW0]; simp
  have b0 : Bx W0 w.heap.size 9 #[.string s] := by rw [← hW0]; exact ((Bx.new w 9 _).alloc _).alloc _ |>.alloc _
  have b1 : Bx W0 (w.heap.size + 1) 35 #[.int .i64 0, .int .i64 0, .int .i64 0, .string ⟨#[]⟩, .slice none 0 0] := by
    rw [← hW0]; have := (Bx.new (w.alloc (.cells #[.string s] 9)) 35 #[.int .i64 0, .int .i64 0, .int .i64 0, .string ⟨#[]⟩, .slice none 0 0]).alloc (.cells #[.bool false] 4) |>.alloc (.cells #[.slice a len cap] 31); rwa [World.size_alloc] at this
  have b2 : Bx W0 (w.heap.size + 2) 4 #[.bool false] := by
    rw [← hW0]; have := (Bx.new ((w.alloc (.cells #[.string s] 9)).alloc (.cells #[.int .i64 0, .int .i64 0, .int .i64 0, .string ⟨#[]⟩, .slice none 0 0] 35)) 4 #[.bool false]).alloc (.cells #[.slice a len cap] 31); rwa [World.size_alloc, World.size_alloc] at this
  have b3 : Bx W0 (w.heap.size + 3) 31 #[.slice a len cap] := by
    rw [← hW0]; have := Bx.new (((w.alloc (.cells #[.string s] 9)).alloc (.cells #[.int .i64 0, .int .i64 0, .int .i64 0, .string ⟨#[]⟩, .slice none 0 0] 35)).alloc (.cells #[.bool false] 4)) 31 #[.slice a len cap]; rwa [World.size_alloc, World.size_alloc, World.size_alloc] at this
  have hB0 : Below w.heap.size w W0 := by rw [← hW0]; exact ((((Below.refl _ w).alloc (Nat.le_refl _) _).alloc (by simp) _).alloc (by simp; omega) _).alloc (by simp; omega) _
  have hI0 : Pairs (w.heap.size + 3 + 1) W0 a len c := (hI.below hB0).mono (by omega)
  rw [hW0]
  have hst := back_stops F (n - 1) h8 hro (by omega) (w.heap.size + 3) len cap a c hreach W0 (by omega) (b3.cell 0 rfl) hI0
  simp only [hc0, hc1, hc2, hc3, hc4, hc5] at hst
  refine wpIn_rangeFunc_ownH hro h1 (gf := 60) (lb := #[.pointer (some ⟨w.heap.size + 1 + 1 + 1, 0, none⟩)]) rfl h8 (enters_of Try.func60 (by kernel_rfl) rfl)
    hst belowK_t (belowK_b (by omega)) (Below.refl _ _) (fun _ => rfl)
    (fun pre W => ((∀ x ∈ pre, nm x ≠ s) ∧ Bx W w.heap.size 9 #[.string s] ∧ Bx W (w.heap.size + 1) 35 #[.int .i64 0, .int .i64 0, .int .i64 0, .string ⟨#[]⟩, .slice none 0 0] ∧ Bx W (w.heap.size + 2) 4 #[.bool false] ∧ Bx W (w.heap.size + 3) 31 #[.slice a len cap]) ∧ Below w.heap.size w W)
    (fun e pre W => (e = .ret ∧ ∃ ini last, pre = ini ++ [last] ∧ (∀ x ∈ ini, nm x ≠ s) ∧ nm last = s ∧ Bx W (w.heap.size + 1) 35 #[.int .i64 (t1 last), .int .i64 (t2 last), .int .i64 (t3 last), .string (ty last), .slice (va last) (vn last) (vc last)] ∧ Bx W (w.heap.size + 2) 4 #[.bool true]) ∧ Below w.heap.size w W)
    (OwnFrom.and (Own.from (fun s A B row hs hg hr => ⟨hs.1, hs.2.1.own hg hr, hs.2.2.1.own hg hr, hs.2.2.2.1.own hg hr, hs.2.2.2.2.own hg hr⟩) _) (ownFrom_below (Nat.le_refl _) (by omega)))
    (fun e => OwnFrom.and (Own.from (fun s A B row hs hg hr => by obtain ⟨hc, ini, last, e1, e2, e3, e4, e5⟩ := hs; exact ⟨hc, ini, last, e1, e2, e3, e4.own hg hr, e5.own hg hr⟩) _) (ownFrom_below (Nat.le_refl _) (by omega)))
    ⟨⟨by simp, b0, b1, b2, b3⟩, hB0⟩
    (fun x a' W => ∃ Bq, w.heap.size + 3 < Bq ∧ Bx W Bq 45 #[.string (nm x), .int .i64 (t1 x), .int .i64 (t2 x), .int .i64 (t3 x), .string (ty x), .slice (va x) (vn x) (vc x)] ∧ a' = { tmps := #[.slice a len cap, .string s, undef, .pointer (some ⟨w.heap.size, 0, none⟩), .pointer (some ⟨w.heap.size + 1, 0, none⟩), .pointer (some ⟨w.heap.size + 1 + 1, 0, none⟩), undef, .pointer (some ⟨Bq, 0, none⟩), .slice a len cap, .func (.func 60) #[] #[.pointer (some ⟨w.heap.size + 1 + 1 + 1, 0, none⟩)], .int .i64 (x : Int), .agg #[.string (nm x), .int .i64 (t1 x), .int .i64 (t2 x), .int .i64 (t3 x), .string (ty x), .slice (va x) (vn x) (vc x)], undef, undef, undef, undef, undef, undef, undef], defers := [] })
    (fun x a' _ X Y row hs hg hr => by obtain ⟨Bq, h1, h2, h3⟩ := hs; exact ⟨Bq, h1, h2.own hg (fun r e => (hr r e).2), h3⟩)
    ?assign ?body ?done ?stop
  case assign =>
    rintro l pre x W K ⟨⟨hn', bS, bE, bO, bN⟩, hB1⟩ hK
    have hl4 := bN.lt
    gi_wp2
    exact hK _ _ ((KeepsOthers.alloc _ _).from _) ((Below.refl _ W).alloc (by omega) _) ⟨⟨hn', bS.alloc _, bE.alloc _, bO.alloc _, bN.alloc _⟩, hB1.alloc hB1.size _⟩ ⟨W.heap.size, by omega, Bx.new W 45 _, rfl⟩
  case body =>
    rintro l pre x a' W hl ⟨r, hr⟩ ⟨⟨hn', bS, bE, bO, bN⟩, hB1⟩ ⟨Bq, hBq, bX, rfl⟩ hlt
    have cS := bS.cell 0 rfl
    have x0 := bX.cell 0 rfl
    have x1 := bX.cell 1 rfl
    have x2 := bX.cell 2 rfl
    have x3 := bX.cell 3 rfl
    have x4 := bX.cell 4 rfl
    have x5 := bX.cell 5 rfl
    have fE0 := bE.frozen 0
    have fE1 := bE.frozen 1
    have fE2 := bE.frozen 2
    have fE3 := bE.frozen 3
    have fE4 := bE.frozen 4
    have e0 := bE.cell 0 rfl
    have e1 := bE.cell 1 rfl
    have e2 := bE.cell 2 rfl
    have e3 := bE.cell 3 rfl
    have e4 := bE.cell 4 rfl
    have fO := bO.frozen 0
    have cO := bO.cell 0 rfl
    gi_wp2
    · have hx : nm x = s := by
        exact toList_inj.1 (by simpa using ‹((nm x).toList == s.toList) = true›)
      have c1 := ((((bE.set 0 (.int .i64 (t1 x))).set 1 (.int .i64 (t2 x))).set 2 (.int .i64 (t3 x))).set 3 (.string (ty x))).set 4 (.slice (va x) (vn x) (vc x))
      have c2 := (((((bO.other (B' := w.heap.size + 1) (by omega) 0 (.int .i64 (t1 x))).other (B' := w.heap.size + 1) (by omega) 1 (.int .i64 (t2 x))).other (B' := w.heap.size + 1) (by omega) 2 (.int .i64 (t3 x))).other (B' := w.heap.size + 1) (by omega) 3 (.string (ty x))).other (B' := w.heap.size + 1) (by omega) 4 (.slice (va x) (vn x) (vc x))).set 0 (.bool true)
      refine ⟨(((((((KeepsOthers.setCell _ _ _).trans (KeepsOthers.setCell _ _ _)).trans (KeepsOthers.setCell _ _ _)).trans (KeepsOthers.setCell _ _ _)).trans (KeepsOthers.setCell _ _ _)).trans (KeepsOthers.setCell _ _ _))).from _, ⟨rfl, pre, x, rfl, hn', hx, c1.other (by omega) 0 _, c2⟩, ?_⟩
      exact (((((hB1.setCell (p := ⟨w.heap.size + 1, 0, none⟩) (by simp) _).setCell (p := ⟨w.heap.size + 1, 1, none⟩) (by simp) _).setCell (p := ⟨w.heap.size + 1, 2, none⟩) (by simp) _).setCell (p := ⟨w.heap.size + 1, 3, none⟩) (by simp) _).setCell (p := ⟨w.heap.size + 1, 4, none⟩) (by simp) _).setCell (p := ⟨w.heap.size + 1 + 1, 0, none⟩) (by simp; omega) _
    · have hx : nm x ≠ s := fun e => by
        have h := ‹((nm x).toList == s.toList) = false›
        rw [e] at h; simp at h
      exact ⟨KeepsFrom.refl _ _, Below.refl _ _, ⟨fun y hy => (List.mem_append.1 hy).elim (hn' y) (fun e => by simp at e; subst e; exact hx), bS, bE, bO, bN⟩, hB1⟩
  case done =>
    rintro D ys W hD rfl ⟨⟨hn', bS, bE, bO, bN⟩, hB1⟩ hK
    have fE0 := bE.frozen 0
    have fE1 := bE.frozen 1
    have fE2 := bE.frozen 2
    have fE3 := bE.frozen 3
    have fE4 := bE.frozen 4
    have e0 := bE.cell 0 rfl
    have e1 := bE.cell 1 rfl
    have e2 := bE.cell 2 rfl
    have e3 := bE.cell 3 rfl
    have e4 := bE.cell 4 rfl
    have fO := bO.frozen 0
    have cO := bO.cell 0 rfl
    gi_wp2
    have KO := ((((((KeepsOthers.setCell W ⟨w.heap.size + 1, 0, none⟩ (.int .i64 0)).trans (KeepsOthers.setCell _ ⟨w.heap.size + 1, 1, none⟩ (.int .i64 0))).trans (KeepsOthers.setCell _ ⟨w.heap.size + 1, 2, none⟩ (.int .i64 0))).trans (KeepsOthers.setCell _ ⟨w.heap.size + 1, 3, none⟩ (.string ⟨#[]⟩))).trans (KeepsOthers.setCell _ ⟨w.heap.size + 1, 4, none⟩ (.slice none 0 0))).trans (KeepsOthers.setCell _ ⟨w.heap.size + 1 + 1, 0, none⟩ (.bool false)))
    have hK' := KO.same D _ hK rfl
    have c1 := (((((bE.set 0 (.int .i64 0)).set 1 (.int .i64 0)).set 2 (.int .i64 0)).set 3 (.string ⟨#[]⟩)).set 4 (.slice none 0 0)).other (B' := w.heap.size + 1 + 1) (by omega) 0 (.bool false)
    have c2 := (((((bO.other (B' := w.heap.size + 1) (by omega) 0 (.int .i64 0)).other (B' := w.heap.size + 1) (by omega) 1 (.int .i64 0)).other (B' := w.heap.size + 1) (by omega) 2 (.int .i64 0)).other (B' := w.heap.size + 1) (by omega) 3 (.string ⟨#[]⟩)).other (B' := w.heap.size + 1) (by omega) 4 (.slice none 0 0)).set 0 (.bool false)
    have hB2 := (((((hB1.setCell (p := ⟨w.heap.size + 1, 0, none⟩) (by simp) (.int .i64 0)).setCell (p := ⟨w.heap.size + 1, 1, none⟩) (by simp) (.int .i64 0)).setCell (p := ⟨w.heap.size + 1, 2, none⟩) (by simp) (.int .i64 0)).setCell (p := ⟨w.heap.size + 1, 3, none⟩) (by simp) (.string ⟨#[]⟩)).setCell (p := ⟨w.heap.size + 1, 4, none⟩) (by simp) (.slice none 0 0)).setCell (p := ⟨w.heap.size + 1 + 1, 0, none⟩) (by simp; omega) (.bool false)
    refine ⟨by simp, .inl ⟨_, _, rfl, run_takeDeferred hK', ?_⟩⟩
    have d1 := c1.own (grownBy_putObj' _ D (.deferred none)) (fun r e => by cases e; exact ⟨_, hK', rfl⟩)
    have d2 := c2.own (grownBy_putObj' _ D (.deferred none)) (fun r e => by cases e; exact ⟨_, hK', rfl⟩)
    refine ⟨.tuple #[.agg #[.int .i64 0, .int .i64 0, .int .i64 0, .string ⟨#[]⟩, .slice none 0 0], .bool false], ?_, .inl ⟨rfl, fun j hj => hn' j (by simp only [upto, List.mem_map, List.mem_range]; exact ⟨len - 1 - j, by omega, by omega⟩)⟩, hB2.trans (belowK_b (w := w) (Nat.le_refl _) _ D _ _ (by omega) hK' rfl rfl)⟩
    have g0 := d1.cell 0 rfl
    have g1 := d1.cell 1 rfl
    have g2 := d1.cell 2 rfl
    have g3 := d1.cell 3 rfl
    have g4 := d1.cell 4 rfl
    have g5 := d2.cell 0 rfl
    simp [results, Try.f10, go_sem, g0, g1, g2, g3, g4, g5]
  case stop =>
    rintro D e pre W hD ⟨k, hk, rfl⟩ ⟨⟨rfl, ini, last, e1, e2, e3, bE, bO⟩, hB1⟩ hK
    gi_wp2
    refine ⟨by simp, .inl ⟨_, _, rfl, run_takeDeferred hK, ?_⟩⟩
    have d1 := bE.own (grownBy_putObj' _ D (.deferred none)) (fun r e => by cases e; exact ⟨_, hK, rfl⟩)
    have d2 := bO.own (grownBy_putObj' _ D (.deferred none)) (fun r e => by cases e; exact ⟨_, hK, rfl⟩)
    obtain ⟨k', rfl⟩ : ∃ k', k = k' + 1 := by
      cases k with
      | zero => simp [upto] at e1
      | succ k' => exact ⟨k', rfl⟩
    rw [upto_succ] at e1
    obtain ⟨rfl, e5⟩ := List.append_inj' e1 rfl
    obtain rfl : len - 1 - k' = last := by simpa using e5
    refine ⟨.tuple #[.agg #[.int .i64 (t1 (len - 1 - k')), .int .i64 (t2 (len - 1 - k')), .int .i64 (t3 (len - 1 - k')), .string (ty (len - 1 - k')), .slice (va (len - 1 - k')) (vn (len - 1 - k')) (vc (len - 1 - k'))], .bool true], ?_, .inr ⟨len - 1 - k', by omega, e3, fun j hj hjl => e2 j (by simp only [upto, List.mem_map, List.mem_range]; exact ⟨len - 1 - j, by omega, by omega⟩), rfl⟩, hB1.trans (belowK_b (w := w) (Nat.le_refl _) _ D _ _ (by omega) hK rfl rfl)⟩
    have g0 := d1.cell 0 rfl
    have g1 := d1.cell 1 rfl
    have g2 := d1.cell 2 rfl
    have g3 := d1.cell 3 rfl
    have g4 := d1.cell 4 rfl
    have g5 := d2.cell 0 rfl
    simp [results, Try.f10, go_sem, g0, g1, g2, g3, g4, g5]
end Go.Proofs.Ytkagljfmfjaleaa.B
