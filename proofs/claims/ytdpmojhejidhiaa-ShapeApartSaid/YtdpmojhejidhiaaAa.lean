/- What memory reads as (D), what is known of a value (A), and of the blocks that a call owns (Blk). -/
import Derived.Test.YtdpmojhejidhiaaRw
namespace Go.Proofs.Ytdpmojhejidhiaa.K
open Go.RowKit
set_option linter.unusedVariables false
set_option linter.unusedSimpArgs false

/-- What a cell reads as: a plain value; a slice of so many elements, by its cells; a pointer to cells. -/
inductive D where
  | nil
  | lit (v : Value)
  | sl (n : Nat) (cs : List D)
  | ref (cs : List D)
  | slc (n : Nat) (cs : List D)
  deriving Inhabited
mutual
def RepD (S : Nat → Prop) (w : World) : D → Value → Prop
  | .nil, u => u = .slice none 0 0
  | .lit v, u => u = v ∧ v.oneCell' = true
  | .sl n cs, u => ∃ a cap, u = .slice a n cap ∧ n ≤ cap ∧ cap ≤ maxLen ∧ (a = none → n = 0 ∧ cap = 0) ∧ RepDs S w cs a 0
  | .ref cs, u => ∃ a, u = .pointer (some a) ∧ RepDs S w cs (some a) 0
  | .slc n cs, u => ∃ a, u = .slice a n n ∧ n ≤ maxLen ∧ (a = none → n = 0) ∧ RepDs S w cs a 0
def RepDs (S : Nat → Prop) (w : World) : List D → Option Addr → Nat → Prop
  | [], _, _ => True
  | c :: cs, a, i => (∃ p u, a = some p ∧ w.cell? (p.add i) = some u ∧ S p.block ∧ u.oneCell' = true ∧ RepD S w c u) ∧ RepDs S w cs a (i + 1)
end
/-- The frozen blocks are as they were. -/
def Keeps (S : Nat → Prop) (w w' : World) : Prop := ∀ b, S b → w'.heap[b]? = w.heap[b]?
theorem Keeps.refl (S : Nat → Prop) (w : World) : Keeps S w w := fun _ _ => rfl
theorem Keeps.trans {S S' : Nat → Prop} {a b c : World} (h : Keeps S a b) (hS : ∀ k, S k → S' k) (k : Keeps S' b c) : Keeps S a c := fun x hx => (k x (hS x hx)).trans (h x hx)
theorem addr_add (b o j : Nat) : (⟨b, o, none⟩ : Addr).add j = ⟨b, o + j, none⟩ := by unfold Addr.add; split <;> simp_all
theorem add_block (p : Addr) (i : Nat) : (p.add i).block = p.block := by unfold Addr.add; split <;> rfl
section
variable {S S' : Nat → Prop} {w w' : World}
mutual
theorem RepD.mono (hS : ∀ b, S b → S' b) (hk : Keeps S w w') : ∀ (x : D) (u : Value), RepD S w x u → RepD S' w' x u
  | .nil, u, h => by simpa only [RepD] using h
  | .lit v, u, h => by simpa only [RepD] using h
  | .sl n cs, u, h => by
    simp only [RepD] at h ⊢
    obtain ⟨a, cap, h0, h2, h3, h4, h5⟩ := h
    exact ⟨a, cap, h0, h2, h3, h4, RepDs.mono hS hk cs a 0 h5⟩
  | .ref cs, u, h => by
    simp only [RepD] at h ⊢
    obtain ⟨a, h0, h5⟩ := h
    exact ⟨a, h0, RepDs.mono hS hk cs _ 0 h5⟩
  | .slc n cs, u, h => by
    simp only [RepD] at h ⊢
    obtain ⟨a, h0, h3, h4, h5⟩ := h
    exact ⟨a, h0, h3, h4, RepDs.mono hS hk cs a 0 h5⟩
theorem RepDs.mono (hS : ∀ b, S b → S' b) (hk : Keeps S w w') : ∀ (cs : List D) (a : Option Addr) (i : Nat), RepDs S w cs a i → RepDs S' w' cs a i
  | [], _, _, _ => by simp only [RepDs]
  | c :: cs, a, i, h => by
    simp only [RepDs] at h ⊢
    obtain ⟨⟨p, u, h1, h2, h3, h4, h5⟩, h6⟩ := h
    refine ⟨⟨p, u, h1, ?_, hS _ h3, h4, RepD.mono hS hk c u h5⟩, RepDs.mono hS hk cs a (i + 1) h6⟩
    rw [World.cell?_of_block (w := w) (by rw [add_block]; exact hk _ h3)]; exact h2
end
end
theorem RepDs.at {S : Nat → Prop} {w : World} : ∀ (cs : List D) (a : Option Addr) (i : Nat), RepDs S w cs a i → ∀ j c, cs[j]? = some c → ∃ p u, a = some p ∧ w.cell? (p.add (i + j)) = some u ∧ S p.block ∧ u.oneCell' = true ∧ RepD S w c u
  | [], _, _, _, j, c, hj => by simp at hj
  | x :: cs, a, i, h, j, c, hj => by
    simp only [RepDs] at h
    cases j with
    | zero => simp only [List.getElem?_cons_zero, Option.some.injEq] at hj; subst hj; exact h.1
    | succ j =>
      have := RepDs.at cs a (i + 1) h.2 j c (by simpa using hj)
      rwa [show i + 1 + j = i + (j + 1) by omega] at this
theorem RepDs.of {S : Nat → Prop} {w : World} : ∀ (cs : List D) (a : Option Addr) (i : Nat), (∀ j c, cs[j]? = some c → ∃ p u, a = some p ∧ w.cell? (p.add (i + j)) = some u ∧ S p.block ∧ u.oneCell' = true ∧ RepD S w c u) → RepDs S w cs a i
  | [], _, _, _ => by simp only [RepDs]
  | x :: cs, a, i, h => by
    simp only [RepDs]
    refine ⟨by simpa using h 0 x rfl, RepDs.of cs a (i + 1) fun j c hj => ?_⟩
    have := h (j + 1) c (by simpa using hj)
    rwa [show i + (j + 1) = i + 1 + j by omega] at this
/-- Data behind the first k cells. -/
theorem RepDs.drop {S : Nat → Prop} {w : World} {cs : List D} {p : Addr} (h : RepDs S w cs (some p) 0) (k : Nat) : RepDs S w (cs.drop k) (some (p.add k)) 0 := by
  refine RepDs.of _ _ _ fun j c hj => ?_
  rw [List.getElem?_drop] at hj
  obtain ⟨q, u, hq, h1, h2, h3, h4⟩ := RepDs.at cs _ 0 h (k + j) c hj
  cases hq
  refine ⟨_, u, rfl, ?_, by rw [add_block]; exact h2, h3, h4⟩
  have : (p.add k).add (0 + j) = p.add (0 + (k + j)) := by
    unfold Addr.add
    by_cases hk : k = 0 <;> by_cases hj0 : j = 0 <;> simp [hk, hj0] <;> omega
  rw [this]; exact h1
theorem RepDs.take {S : Nat → Prop} {w : World} {cs : List D} {a : Option Addr} {i : Nat} (h : RepDs S w cs a i) (k : Nat) : RepDs S w (cs.take k) a i := by
  refine RepDs.of _ _ _ fun j c hj => RepDs.at cs a i h j c ?_
  rw [List.getElem?_take] at hj
  split at hj
  · exact hj
  · cases hj

/-- What is known of a value: nothing; a frozen datum; a struct, a tuple, of such; a pointer into a block of our own, a slice of our own (all of it; a part of it), a function with what it has caught. -/
inductive A where
  | top
  | d (x : D)
  | agg (xs : List A)
  | tup (xs : List A)
  | loc (id off : Nat)
  | own (id : Nat)
  | sub (id off n : Nat)
  | clo (fn : Fn) (first cap : List A)
  | ab (p : Prop)
  deriving Inhabited
/-- Where an own block lies. -/
inductive Pl where
  | gone
  | box (b : Nat)
  | arr (v : Value)
def Pl.blk : Pl → Option Nat
  | .gone => none
  | .box b => some b
  | .arr v => v.ownBlock
abbrev Mp := Nat → Option Pl
/-- A later map: a block may be gone, others may be new. -/
def Le (m m' : Mp) : Prop := ∀ id p, m id = some p → m' id = some p ∨ m' id = some .gone
theorem Le.refl (m : Mp) : Le m m := fun _ _ h => .inl h
theorem Le.trans {a b c : Mp} (h : Le a b) (k : Le b c) : Le a c := fun id p hp => by
  rcases h id p hp with h | h
  · exact k id p h
  · rcases k id _ h with k | k <;> exact .inr k
mutual
def Rep (m : Mp) (S : Nat → Prop) (w : World) : A → Value → Prop
  | .top, _ => True
  | .d x, u => RepD S w x u
  | .agg xs, u => ∃ vs, u = .agg vs ∧ Reps m S w xs vs.toList
  | .tup xs, u => ∃ vs, u = .tuple vs ∧ Reps m S w xs vs.toList
  | .loc id off, u => match m id with
    | none => False
    | some .gone => u.oneCell' = true
    | some (.box b) => u = .pointer (some ⟨b, off, none⟩)
    | some (.arr v) => ∃ g, v.ownBlock = some g ∧ u = .pointer (some ⟨g, off, none⟩)
  | .own id, u => match m id with
    | none => False
    | some .gone => u.oneCell' = true
    | some (.box _) => False
    | some (.arr v) => u = v ∧ u.oneCell' = true
  | .sub id off n, u => match m id with
    | none => False
    | some .gone => u.oneCell' = true
    | some (.box _) => False
    | some (.arr v) => ∃ g cap, v.ownBlock = some g ∧ u = .slice (some ⟨g, off, none⟩) n cap ∧ n ≤ cap ∧ cap ≤ maxLen
  | .clo fn f c, u => ∃ vs cs, u = .func fn vs cs ∧ Reps m S w f vs.toList ∧ Reps m S w c cs.toList
  | .ab p, u => ∃ b, u = .bool b ∧ (b = true → p)
def Reps (m : Mp) (S : Nat → Prop) (w : World) : List A → List Value → Prop
  | [], vs => vs = []
  | a :: as, vs => ∃ v r, vs = v :: r ∧ Rep m S w a v ∧ Reps m S w as r
end
section
variable {m m' : Mp} {S S' : Nat → Prop} {w w' : World}
mutual
theorem Rep.mono (hm : Le m m') (hS : ∀ b, S b → S' b) (hk : Keeps S w w') : ∀ (x : A) (u : Value), Rep m S w x u → Rep m' S' w' x u
  | .top, u, h => by simp only [Rep]
  | .d x, u, h => by simp only [Rep] at h ⊢; exact RepD.mono hS hk x u h
  | .agg xs, u, h => by
    simp only [Rep] at h ⊢
    obtain ⟨vs, h1, h2⟩ := h
    exact ⟨vs, h1, Reps.mono hm hS hk xs _ h2⟩
  | .tup xs, u, h => by
    simp only [Rep] at h ⊢
    obtain ⟨vs, h1, h2⟩ := h
    exact ⟨vs, h1, Reps.mono hm hS hk xs _ h2⟩
  | .loc id off, u, h => by
    simp only [Rep] at h ⊢
    cases hp : m id with
    | none => rw [hp] at h; exact h.elim
    | some p =>
      rw [hp] at h
      rcases hm id p hp with h' | h' <;> rw [h']
      · exact h
      · cases p with
        | gone => exact h
        | box b => simp only at h; subst h; rfl
        | arr v => obtain ⟨g, _, rfl⟩ := h; rfl
  | .own id, u, h => by
    simp only [Rep] at h ⊢
    cases hp : m id with
    | none => rw [hp] at h; exact h.elim
    | some p =>
      rw [hp] at h
      rcases hm id p hp with h' | h' <;> rw [h']
      · exact h
      · cases p with
        | gone => exact h
        | box b => exact h.elim
        | arr v => exact h.2
  | .sub id off n, u, h => by
    simp only [Rep] at h ⊢
    cases hp : m id with
    | none => rw [hp] at h; exact h.elim
    | some p =>
      rw [hp] at h
      rcases hm id p hp with h' | h' <;> rw [h']
      · exact h
      · cases p with
        | gone => exact h
        | box b => exact h.elim
        | arr v => obtain ⟨g, cap, _, rfl, _⟩ := h; rfl
  | .clo fn f c, u, h => by
    simp only [Rep] at h ⊢
    obtain ⟨vs, cs, h1, h2, h3⟩ := h
    exact ⟨vs, cs, h1, Reps.mono hm hS hk f _ h2, Reps.mono hm hS hk c _ h3⟩
  | .ab p, u, h => by simp only [Rep] at h ⊢; exact h
theorem Reps.mono (hm : Le m m') (hS : ∀ b, S b → S' b) (hk : Keeps S w w') : ∀ (xs : List A) (vs : List Value), Reps m S w xs vs → Reps m' S' w' xs vs
  | [], vs, h => by simpa only [Reps] using h
  | x :: xs, vs, h => by
    simp only [Reps] at h ⊢
    obtain ⟨v, r, h1, h2, h3⟩ := h
    exact ⟨v, r, h1, Rep.mono hm hS hk x v h2, Reps.mono hm hS hk xs r h3⟩
end
theorem Reps.length : ∀ {xs : List A} {vs : List Value}, Reps m S w xs vs → vs.length = xs.length
  | [], vs, h => by simp only [Reps] at h; simp [h]
  | x :: xs, vs, h => by
    simp only [Reps] at h
    obtain ⟨v, r, rfl, _, h3⟩ := h
    simp [Reps.length h3]
theorem Reps.at : ∀ {xs : List A} {vs : List Value}, Reps m S w xs vs → ∀ (i : Nat) (x : A), xs[i]? = some x → ∃ v, vs[i]? = some v ∧ Rep m S w x v
  | [], vs, h, i, x, hx => by simp at hx
  | y :: xs, vs, h, i, x, hx => by
    simp only [Reps] at h
    obtain ⟨v, r, rfl, h2, h3⟩ := h
    cases i with
    | zero => simp only [List.getElem?_cons_zero, Option.some.injEq] at hx; subst hx; exact ⟨v, rfl, h2⟩
    | succ i => simpa using Reps.at h3 i x (by simpa using hx)
theorem Reps.of : ∀ {xs : List A} {vs : List Value}, vs.length = xs.length → (∀ (i : Nat) (x : A) (v : Value), xs[i]? = some x → vs[i]? = some v → Rep m S w x v) → Reps m S w xs vs
  | [], vs, hl, h => by simp only [Reps]; exact List.eq_nil_of_length_eq_zero (by simpa using hl)
  | y :: xs, [], hl, h => by simp at hl
  | y :: xs, v :: r, hl, h => by
    simp only [Reps]
    exact ⟨v, r, rfl, h 0 y v rfl rfl, Reps.of (by simpa using hl) fun i x u hx hu => h (i + 1) x u (by simpa using hx) (by simpa using hu)⟩
theorem Reps.set {xs : List A} {vs : List Value} (h : Reps m S w xs vs) (i : Nat) {x : A} {v : Value} (hx : Rep m S w x v) : Reps m S w (xs.set i x) (vs.set i v) := by
  have hl := h.length
  refine Reps.of (by simp [hl]) fun j y u hy hu => ?_
  rw [List.getElem?_set] at hy hu
  by_cases hij : i = j
  · subst hij
    simp only [if_true] at hy hu
    split at hy
    · simp only [Option.some.injEq] at hy
      subst hy
      split at hu
      · simp only [Option.some.injEq] at hu; subst hu; exact hx
      · cases hu
    · cases hy
  · simp only [hij, if_false] at hy hu
    obtain ⟨v', h1, h2⟩ := h.at j y hy
    rw [h1] at hu; cases hu; exact h2
theorem Reps.append : ∀ {xs ys : List A} {vs us : List Value}, Reps m S w xs vs → Reps m S w ys us → Reps m S w (xs ++ ys) (vs ++ us)
  | [], ys, vs, us, h, k => by simp only [Reps] at h; subst h; simpa using k
  | x :: xs, ys, vs, us, h, k => by
    simp only [Reps] at h
    obtain ⟨v, r, rfl, h2, h3⟩ := h
    simp only [List.cons_append, Reps]
    exact ⟨v, r ++ us, rfl, h2, Reps.append h3 k⟩
end
/-- Frozen data as values. -/
abbrev RepsD (S : Nat → Prop) (w : World) (xs : List D) (vs : List Value) : Prop := vs.length = xs.length ∧ ∀ (i : Nat) (x : D) (v : Value), xs[i]? = some x → vs[i]? = some v → RepD S w x v
theorem RepsD.mono {S S' : Nat → Prop} {w w' : World} {xs : List D} {vs : List Value} (hS : ∀ b, S b → S' b) (hk : Keeps S w w') (h : RepsD S w xs vs) : RepsD S' w' xs vs :=
  ⟨h.1, fun i x v hx hv => RepD.mono hS hk x v (h.2 i x v hx hv)⟩

/-- An own block: not made yet; gone; a variable's cells; a slice's row (its element's type and cells, its length), that may be written, or no more. -/
inductive Blk where
  | unborn
  | gone
  | box (xs : List A)
  | arr (e sz n : Nat) (xs : List D)
  | fro (e sz n : Nat) (xs : List D)
  deriving Inhabited
def ones (vs : List Value) : Prop := ∀ v ∈ vs, v.oneCell' = true
def RowOK (S : Nat → Prop) (w : World) (e sz n : Nat) (xs : List D) (v : Value) : Prop := ∃ cells, OwnsR w e sz v n cells ∧ RepsD S w xs cells ∧ ones cells
def BlkOK (m : Mp) (S : Nat → Prop) (w : World) (id : Nat) : Blk → Prop
  | .unborn => m id = none
  | .gone => m id = some .gone
  | .box xs => ∃ b cells T, m id = some (.box b) ∧ w.heap[b]? = some (.cells cells T (0, 0)) ∧ Reps m S w xs cells.toList ∧ ones cells.toList ∧ ¬ S b
  | .arr e sz n xs => ∃ v, m id = some (.arr v) ∧ RowOK S w e sz n xs v ∧ ∀ g, v.ownBlock = some g → ¬ S g
  | .fro e sz n xs => ∃ v, m id = some (.arr v) ∧ RowOK S w e sz n xs v ∧ ∀ g, v.ownBlock = some g → S g

/-- Where a call began: what was frozen, what it was handed to write. -/
structure Cx where
  w0 : World
  S0 : Nat → Prop
  P0 : Nat → Prop
  m0 : Mp
structure Hold (cx : Cx) (m : Mp) (S : Nat → Prop) (w : World) (H : List Blk) : Prop where
  os : w.os = cx.w0.os
  tape : w.tape = cx.w0.tape
  output : w.output = cx.w0.output
  size : cx.w0.heap.size ≤ w.heap.size
  old : ∀ b, b < cx.w0.heap.size → ¬ cx.P0 b → w.heap[b]? = cx.w0.heap[b]?
  s0 : ∀ b, cx.S0 b → S b
  s : ∀ b, S b → (cx.S0 b ∨ cx.P0 b ∨ cx.w0.heap.size ≤ b) ∧ b < w.heap.size
  pl : ∀ id p b, m id = some p → p.blk = some b → (cx.P0 b ∨ cx.S0 b ∨ cx.w0.heap.size ≤ b) ∧ b < w.heap.size
  apart : ∀ id id' p p' b, id ≠ id' → m id = some p → m id' = some p' → p.blk = some b → p'.blk ≠ some b
  ok : ∀ id, BlkOK m S w id (H.getD id .unborn)
  le : Le cx.m0 m
structure St where
  env : List A
  H : List Blk
  k : Nat
structure Sim (cx : Cx) (m : Mp) (S : Nat → Prop) (a : Act) (w : World) (st : St) : Prop where
  hold : Hold cx m S w st.H
  env : Reps m S w st.env a.tmps.toList
  df : a.defers = []
  pre : ∀ id, st.k ≤ id → cx.m0 id = none
theorem Hold.congr {cx : Cx} {m : Mp} {S : Nat → Prop} {w : World} {H H' : List Blk} (h : Hold cx m S w H) (he : ∀ id, H'.getD id .unborn = H.getD id .unborn) : Hold cx m S w H' :=
  ⟨h.os, h.tape, h.output, h.size, h.old, h.s0, h.s, h.pl, h.apart, fun id => by rw [he]; exact h.ok id, h.le⟩
theorem Hold.drew {cx : Cx} {m : Mp} {S : Nat → Prop} {w : World} {H : List Blk} (h : Hold cx m S w H) : Hold cx m S w.drew H := by
  have hk : Keeps S w w.drew := fun _ _ => rfl
  refine ⟨h.os, h.tape, h.output, h.size, h.old, h.s0, h.s, h.pl, h.apart, fun id => ?_, h.le⟩
  have := h.ok id
  cases hb : H.getD id .unborn with
  | unborn => rw [hb] at this; exact this
  | gone => rw [hb] at this; exact this
  | box xs =>
    rw [hb] at this
    obtain ⟨b, cells, T, h1, h2, h3, h4, h5⟩ := this
    exact ⟨b, cells, T, h1, h2, Reps.mono (Le.refl m) (fun _ h => h) hk _ _ h3, h4, h5⟩
  | arr e sz n xs =>
    rw [hb] at this
    obtain ⟨v, h1, ⟨cells, h2, h3, h4⟩, h5⟩ := this
    exact ⟨v, h1, ⟨cells, h2, h3.mono (fun _ h => h) hk, h4⟩, h5⟩
  | fro e sz n xs =>
    rw [hb] at this
    obtain ⟨v, h1, ⟨cells, h2, h3, h4⟩, h5⟩ := this
    exact ⟨v, h1, ⟨cells, h2, h3.mono (fun _ h => h) hk, h4⟩, h5⟩
end Go.Proofs.Ytdpmojhejidhiaa.K
