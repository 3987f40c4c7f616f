/- slices.Sort and slices.Compact at texts, as contracts of the framework. -/
import Derived.Test.YtkajfanpdabjcaaLi
import Derived.Test.YtkajfanpdabjcaaShelf
import Derived.Sort.OwnSorted
namespace Go.Proofs.Ytkajfanpdabjcaa.K
open Go.RowKit Go.Lib Go.Sort
set_option linter.unusedVariables false
set_option linter.unusedSimpArgs false
theorem flatS_map (l : List (List UInt8)) : flatD encS l = l.map fun b => D.lit (.string (toS b)) := by
  induction l with
  | nil => rfl
  | cons a l ih => rw [flatD_cons, ih]; rfl
theorem encStr_toS (b : List UInt8) : encStr b = .string (toS b) := rfl
theorem repsS_eq {S : Nat → Prop} {w : World} {l : List (List UInt8)} {cells : List Value} (h : RepsD S w (flatD encS l) cells) : cells = l.map encStr := by
  rw [flatS_map] at h
  apply List.ext_getElem?
  intro j
  by_cases hj : j < l.length
  · have hc : j < cells.length := by rw [h.1]; simpa using hj
    have := h.2 j (D.lit (.string (toS l[j]))) cells[j] (by simp [hj]) (List.getElem?_eq_getElem hc)
    unfold RepD at this
    rw [List.getElem?_eq_getElem hc, this.1]; simp [hj, encStr_toS]
  · rw [List.getElem?_eq_none (by rw [h.1]; simp; omega), List.getElem?_eq_none (by simp; omega)]
theorem repsS_of (S : Nat → Prop) (w : World) (l : List (List UInt8)) : RepsD S w (flatD encS l) (l.map encStr) := by
  rw [flatS_map]
  refine ⟨by simp, fun i x v hx hv => ?_⟩
  rw [List.getElem?_map] at hx hv
  cases hl : l[i]? with
  | none => rw [hl] at hx; cases hx
  | some b => rw [hl] at hx hv; cases hx; cases hv; unfold RepD; exact ⟨rfl, rfl⟩
/-- A row of texts that a call was handed. -/
theorem rowS_open {m : Mp} {S : Nat → Prop} {w : World} {vs : List Value} {e : Nat} {l : List (List UInt8)} (hH : Hold ⟨w, S, P0of m S, m⟩ m S w [.arr e 1 l.length (flatD encS l)]) (hR : Reps m S w [.own 0] vs) :
    ∃ v, vs = [v] ∧ m 0 = some (.arr v) ∧ (∀ g, v.ownBlock = some g → ¬ S g) ∧ ((v = .slice none 0 0 ∧ l = []) ∨ ∃ g cap cur, v = .slice (some ⟨g, 0, none⟩) l.length cap ∧ RowAt w g cur e ∧ l.length ≤ cap ∧ cap ≤ maxLen ∧ cur.size = cap ∧ cur.toList.take l.length = l.map encStr) := by
  simp only [Reps] at hR
  obtain ⟨v, r, rfl, h0, rfl⟩ := hR
  have hok := hH.ok 0
  simp only [List.getD_cons_zero] at hok
  obtain ⟨v', h1, ⟨cells, ⟨hl, hrow⟩, hr, h1s⟩, hS⟩ := hok
  simp only [Rep, h1] at h0
  obtain ⟨rfl, _⟩ := h0
  have hcells := repsS_eq hr
  refine ⟨v, rfl, h1, hS, ?_⟩
  rcases hrow with ⟨rfl, hn⟩ | ⟨g, cap, cur, rfl, _, h2, h3, h4, h5, h6⟩
  · exact .inl ⟨rfl, List.eq_nil_of_length_eq_zero hn⟩
  · exact .inr ⟨g, cap, cur, rfl, h2, h3, h4, by simpa using h5, by rw [← hcells, ← h6, Nat.mul_one]⟩
theorem holdsS {w : World} {g : Nat} {cur : Array Value} {e : Nat} {l : List (List UInt8)} (h : RowAt w g cur e) (hl : l.length ≤ cur.size) (ht : cur.toList.take l.length = l.map encStr) : Holds encStr w g 0 l.toArray := by
  intro j hj
  have hj' : j < l.length := by simpa using hj
  refine ⟨?_, by rw [Nat.zero_add]; exact h.frozen (by omega)⟩
  rw [Nat.zero_add, h.cell]
  have h1 : (cur.toList.take l.length)[j]? = (l.map encStr)[j]? := by rw [ht]
  rw [List.getElem?_take_of_lt hj', Array.getElem?_toList] at h1
  rw [h1]; simp [hj']
def sortS (l : List (List UInt8)) : List (List UInt8) := l.mergeSort fun x y => decide (x ≤ y)
theorem call_sortS {f e : Nat} (con : ∀ (blk off cap : Nat) (ss : List (List UInt8)) (w : World), Holds encStr w blk off ss.toArray → blk < w.heap.size → ss.length < 4611686018427387904 →
      Calls Try.prog f #[.slice (some ⟨blk, off, none⟩) ss.length cap] w fun e w' => e = .returned (.tuple #[]) ∧ ∃ n os, w' = grow (putRow encStr (Sort.ahead w n) blk off (ss.mergeSort fun x y => decide (x ≤ y)).toArray) os)
    (non : ∀ (p : Option Addr) (cap : Nat) (w : World), Calls Try.prog f #[.slice p 0 cap] w fun e w' => e = .returned (.tuple #[]) ∧ w' = w) (l : List (List UInt8)) (hl : l.length ≤ 1000000000) :
    GCall Try.prog f [.own 0] [.arr e 1 l.length (flatD encS l)] (.tup []) [.arr e 1 (sortS l).length (flatD encS (sortS l))] := by
  intro m S w vs hH hR
  obtain ⟨v, rfl, h1, hS, hv⟩ := rowS_open hH hR
  rcases hv with ⟨rfl, rfl⟩ | ⟨g, cap, cur, rfl, h2, h3, h4, h5, h6⟩
  · refine (non none 0 w).mono ?_
    rintro e' w' ⟨rfl, rfl⟩
    refine ⟨_, m, S, rfl, ?_, by simp [Rep, Reps]⟩
    have : sortS ([] : List (List UInt8)) = [] := by simp [sortS]
    rw [this]; exact hH
  · have hlen : (sortS l).length = l.length := by simp [sortS]
    refine (con g 0 cap l w (holdsS h2 (by omega) h6) h2.lt (by omega)).mono ?_
    rintro e' w' ⟨rfl, n, os, rfl⟩
    obtain ⟨fz, hb, hfz⟩ := h2
    have hw := hH.write (w' := grow (putRow encStr (Sort.ahead w n) g 0 (sortS l).toArray) os) (b := .arr e 1 (sortS l).length (flatD encS (sortS l))) h1 rfl (hS g rfl) rfl rfl rfl (grownBy_sorted (w := w) (g := g) (n := n) (os := os) (sortS l).toArray).size
      (fun b hb hne => (grownBy_sorted (w := w) (g := g) (n := n) (os := os) (sortS l).toArray).block b hb (fun e => hne (by cases e; rfl)))
      (fun hK => ⟨_, h1, ⟨(sortS l).map encStr, ⟨by simp, .inr ⟨g, cap, _, by rw [hlen], Nat.zero_le _, ⟨fz, heap_sorted _ hb, by simpa [putCells] using hfz⟩, by omega, h4, by simp [putCells, h5], by rw [Nat.mul_one]; exact take_putCells cur (sortS l) (by omega)⟩⟩, repsS_of _ _ _, fun v hv => by
        obtain ⟨b, _, rfl⟩ := List.mem_map.1 hv; rfl⟩, hS⟩)
    exact ⟨_, m, S, rfl, hw.2, by simp [Rep, Reps]⟩
/-- The row is given away: what is left is what it reads as. -/
theorem Hold.giveS {m : Mp} {S : Nat → Prop} {w w' : World} {b0 : Blk} {v : Value} (h : Hold ⟨w, S, P0of m S, m⟩ m S w [b0]) (h1 : m 0 = some (.arr v)) (hS : ∀ g, v.ownBlock = some g → ¬ S g) (hos : w'.os = w.os) (htape : w'.tape = w.tape) (hout : w'.output = w.output) (hsize : w.heap.size ≤ w'.heap.size)
    (hheap : ∀ b, b < w.heap.size → v.ownBlock ≠ some b → w'.heap[b]? = w.heap[b]?) : Keeps S w w' ∧ Hold ⟨w, S, P0of m S, m⟩ (updM m 0 .gone) (fun b => S b ∨ v.ownBlock = some b) w' [.gone] ∧ Le m (updM m 0 .gone) := by
  have hLe : Le m (updM m 0 .gone) := fun id p hp => by
    by_cases e : id = 0
    · subst e; right; simp [updM]
    · left; simpa [updM, e] using hp
  have hK : Keeps S w w' := fun b hb => hheap b (h.s b hb).2 fun e => hS b e hb
  refine ⟨hK, ⟨hos, htape, hout, hsize, fun b hb hP => hheap b hb fun e => hP ⟨0, _, h1, e, hS b e⟩, fun b hb => .inl (h.s0 b hb), fun b hb => ?_, fun id p b hp hb => ?_, fun id id' p p' b hne hp hp' hb => ?_, fun id => ?_, hLe⟩, hLe⟩
  · rcases hb with hb | hb
    · exact ⟨(h.s b hb).1, Nat.lt_of_lt_of_le (h.s b hb).2 hsize⟩
    · exact ⟨.inr (.inl ⟨0, _, h1, hb, hS b hb⟩), Nat.lt_of_lt_of_le (h.pl 0 _ b h1 hb).2 hsize⟩
  · by_cases e : id = 0
    · subst e; simp only [updM, if_true, Option.some.injEq] at hp; subst hp; cases hb
    · simp only [updM, e, if_false] at hp
      have := h.pl id p b hp hb
      exact ⟨this.1, Nat.lt_of_lt_of_le this.2 hsize⟩
  · by_cases e : id = 0
    · subst e; simp only [updM, if_true, Option.some.injEq] at hp; subst hp; cases hb
    · by_cases e' : id' = 0
      · subst e'; simp only [updM, if_true, Option.some.injEq] at hp'; subst hp'; simp [Pl.blk]
      · simp only [updM, e, e', if_false] at hp hp'
        exact h.apart id id' p p' b hne hp hp' hb
  · cases id with
    | zero => show updM m 0 .gone 0 = some .gone; simp [updM]
    | succ id =>
      have := h.ok (id + 1)
      show updM m 0 .gone (id + 1) = none
      have h2 : m (id + 1) = none := this
      simpa [updM] using h2
theorem compUp_len (d : Array (List UInt8)) : ∀ m, (Lib.compactUpTo d m).length ≤ m
  | 0 => by simp [Lib.compactUpTo]
  | m + 1 => by
    have := compUp_len d m
    rw [Lib.compactUpTo_succ, List.length_append]
    split <;> simp <;> omega
theorem putCells_one (cur : Array Value) (d : List (List UInt8)) (j : Nat) (hj : j < d.length) (hc : d.length ≤ cur.size) : (putCells encStr 0 d.toArray cur)[j]? = some (encStr d[j]) := by
  simp [putCells, hj, show j < cur.size by omega]
theorem call_compS {f e : Nat} (con : ∀ (blk off cap : Nat) (zs : List (List UInt8)) (w : World), Holds encStr w blk off zs.toArray → zs.length ≤ 9223372036854775807 → zs.length ≤ cap →
      Calls Try.prog f #[.slice (some ⟨blk, off, none⟩) zs.length cap] w fun e w' => e = .returned (.slice (some ⟨blk, off, none⟩) (Lib.compact zs).length cap) ∧ ∃ q, w' = putRow encStr (Sort.ahead w q) blk off (Lib.compact zs ++ List.replicate (zs.length - (Lib.compact zs).length) []).toArray)
    (non : ∀ (a : Option Addr) (cap : Nat) (w : World), Calls Try.prog f #[.slice a 0 cap] w fun e w' => e = .returned (.slice a 0 cap) ∧ w' = w) (l : List (List UInt8)) (hl : l.length ≤ 1000000000) :
    GCall Try.prog f [.own 0] [.arr e 1 l.length (flatD encS l)] (.d (.sl (Lib.compact l).length (flatD encS (Lib.compact l)))) [.gone] := by
  intro m S w vs hH hR
  obtain ⟨v, rfl, h1, hS, hv⟩ := rowS_open hH hR
  rcases hv with ⟨rfl, rfl⟩ | ⟨g, cap, cur, rfl, h2, h3, h4, h5, h6⟩
  · refine (non none 0 w).mono ?_
    rintro e' w' ⟨rfl, rfl⟩
    have hc : Lib.compact ([] : List (List UInt8)) = [] := rfl
    obtain ⟨_, k2, _⟩ := hH.giveS h1 hS rfl rfl rfl (Nat.le_refl _) (fun _ _ _ => rfl)
    refine ⟨_, _, _, rfl, k2, ?_⟩
    rw [hc]
    simp only [Rep]; unfold RepD
    exact ⟨none, 0, rfl, Nat.le_refl _, Nat.zero_le _, fun _ => ⟨rfl, rfl⟩, by simp [flatD, RepDs]⟩
  · have hcl : (Lib.compact l).length ≤ l.length := compUp_len _ _
    refine (con g 0 cap l w (holdsS h2 (by omega) h6) (by omega) h3).mono ?_
    rintro e' w' ⟨rfl, q, rfl⟩
    obtain ⟨fz, hb, hfz⟩ := h2
    generalize hd : Lib.compact l ++ List.replicate (l.length - (Lib.compact l).length) [] = d
    have hdl : d.length = l.length := by rw [← hd]; simp; omega
    have hg := grownBy_sorted (w := w) (g := g) (n := q) (os := #[]) d.toArray
    have hh := heap_sorted (w := w) (g := g) (n := q) (os := #[]) d.toArray hb
    rw [grow_empty] at hg hh
    obtain ⟨_, k2, _⟩ := hH.giveS (w' := putRow encStr (Sort.ahead w q) g 0 d.toArray) h1 hS rfl rfl rfl hg.size (fun b hb hne => hg.block b hb fun e => hne (by cases e; rfl))
    refine ⟨_, _, _, rfl, k2, ?_⟩
    simp only [Rep]; unfold RepD
    refine ⟨_, cap, rfl, by omega, h4, (fun h => by cases h), RepDs.of _ _ _ fun j c hj => ?_⟩
    rw [flatS_map, List.getElem?_map] at hj
    cases hcj : (Lib.compact l)[j]? with
    | none => rw [hcj] at hj; cases hj
    | some b =>
      rw [hcj] at hj; cases hj
      obtain ⟨hjl, hbe⟩ := List.getElem?_eq_some_iff.1 hcj
      refine ⟨_, encStr b, rfl, ?_, .inr rfl, rfl, by unfold RepD; exact ⟨rfl, rfl⟩⟩
      rw [addr_add, Nat.zero_add, Nat.zero_add]
      simp only [World.cell?, hh, Option.isSome_none, Bool.false_eq_true, if_false]
      rw [putCells_one cur d j (by omega) (by omega)]
      congr 2
      subst hbe
      subst hd
      rw [List.getElem_append_left hjl]
end Go.Proofs.Ytkajfanpdabjcaa.K
