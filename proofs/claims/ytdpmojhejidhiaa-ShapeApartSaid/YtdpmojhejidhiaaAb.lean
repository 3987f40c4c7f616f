/- A region, walked once in the text's order, by what its operations read and write; the order may be drawn. -/
import Derived.Test.YtdpmojhejidhiaaAa
namespace Go.Proofs.Ytdpmojhejidhiaa.K
open Go.RowKit
set_option linter.unusedVariables false
set_option linter.unusedSimpArgs false

inductive Loc where
  | tmp (t : Nat)
  | blk (id : Nat)
  deriving DecidableEq
inductive Ct where
  | a (x : A)
  | b (x : Blk)
def St.at (st : St) : Loc → Ct
  | .tmp t => .a (st.env.getD t .top)
  | .blk id => .b (st.H.getD id .unborn)
def setAt : List Blk → Nat → Blk → List Blk
  | [], 0, b => [b]
  | [], n + 1, b => .unborn :: setAt [] n b
  | _ :: l, 0, b => b :: l
  | x :: l, n + 1, b => x :: setAt l n b
theorem getD_setAt : ∀ (H : List Blk) (i j : Nat) (b : Blk), (setAt H i b).getD j .unborn = if j = i then b else H.getD j .unborn
  | [], 0, 0, b => rfl
  | [], 0, j + 1, b => rfl
  | [], i + 1, 0, b => rfl
  | [], i + 1, j + 1, b => by
    have := getD_setAt [] i j b
    simp only [setAt, List.getD_cons_succ, Nat.add_right_cancel_iff]
    simpa using this
  | x :: l, 0, 0, b => rfl
  | x :: l, 0, j + 1, b => rfl
  | x :: l, i + 1, 0, b => rfl
  | x :: l, i + 1, j + 1, b => by
    have := getD_setAt l i j b
    simp only [setAt, List.getD_cons_succ, Nat.add_right_cancel_iff]
    exact this
def putB : List Blk → List (Nat × Blk) → List Blk
  | H, [] => H
  | H, p :: bl => putB (setAt H p.1 p.2) bl
def lastB : List (Nat × Blk) → Nat → Option Blk
  | [], _ => none
  | p :: bl, j => match lastB bl j with | some b => some b | none => if j = p.1 then some p.2 else none
theorem getD_putB : ∀ (bl : List (Nat × Blk)) (H : List Blk) (j : Nat), (putB H bl).getD j .unborn = (lastB bl j).getD (H.getD j .unborn)
  | [], H, j => rfl
  | p :: bl, H, j => by
    rw [putB, getD_putB bl, lastB, getD_setAt]
    cases lastB bl j with
    | some b => rfl
    | none => by_cases h : j = p.1 <;> simp [h]
def St.put (st : St) (dst : Option Nat) (val : A) (bl : List (Nat × Blk)) : St := ⟨match dst with | some d => st.env.set d val | none => st.env, putB st.H bl, st.k⟩
@[simp] theorem St.put_k (st : St) (dst : Option Nat) (val : A) (bl : List (Nat × Blk)) : (st.put dst val bl).k = st.k := rfl
@[simp] theorem St.put_length (st : St) (dst : Option Nat) (val : A) (bl : List (Nat × Blk)) : (st.put dst val bl).env.length = st.env.length := by
  unfold St.put; cases dst <;> simp

/-- What one operation has done: its slot, that slot's value, the blocks that it wrote; what it looked at. -/
structure Ef where
  dst : Option Nat
  val : A
  bl : List (Nat × Blk)
  R : List Loc
def Ef.W (e : Ef) : List Loc := (match e.dst with | some d => [.tmp d] | none => []) ++ e.bl.map fun p => .blk p.1
def Ef.wr (e : Ef) (len : Nat) : Loc → Option Ct
  | .tmp t => if e.dst = some t ∧ t < len then some (.a e.val) else none
  | .blk id => (lastB e.bl id).map .b
def St.ap (st : St) (e : Ef) : St := st.put e.dst e.val e.bl
theorem lastB_mem : ∀ {bl : List (Nat × Blk)} {j : Nat}, (lastB bl j).isSome = true → j ∈ bl.map (·.1)
  | [], j, h => by simp [lastB] at h
  | p :: bl, j, h => by
    rw [lastB] at h
    cases hl : lastB bl j with
    | some b => have := lastB_mem (bl := bl) (j := j) (by simp [hl]); simp only [List.map_cons, List.mem_cons]; exact .inr this
    | none =>
      rw [hl] at h
      by_cases hj : j = p.1
      · simp [hj]
      · simp [hj] at h
theorem Ef.wr_W {e : Ef} {len : Nat} {l : Loc} (h : (e.wr len l).isSome = true) : l ∈ e.W := by
  cases l with
  | tmp t =>
    simp only [Ef.wr] at h
    split at h
    · rename_i hc; simp [Ef.W, hc.1]
    · cases h
  | blk id =>
    simp only [Ef.wr, Option.isSome_map] at h
    have := lastB_mem h
    simp only [Ef.W, List.mem_append, List.mem_map]
    right
    obtain ⟨p, hp, rfl⟩ := List.mem_map.1 this
    exact ⟨p, hp, rfl⟩
theorem at_ap (st : St) (e : Ef) (l : Loc) : (st.ap e).at l = (e.wr st.env.length l).getD (st.at l) := by
  cases l with
  | tmp t =>
    simp only [St.at, St.ap, St.put, Ef.wr]
    cases hd : e.dst with
    | none => simp
    | some d =>
      by_cases h : d = t
      · subst h
        by_cases hl : d < st.env.length
        · simp [hl]
        · simp [hl, List.getD_eq_getElem?_getD]
      · simp [h, List.getD_eq_getElem?_getD, List.getElem?_set]
  | blk id =>
    simp only [St.at, St.ap, St.put, Ef.wr, getD_putB]
    cases lastB e.bl id <;> rfl
@[simp] theorem St.ap_length (st : St) (e : Ef) : (st.ap e).env.length = st.env.length := by simp [St.ap]

/-- The operations that are marked, one behind the other. -/
def sig (st : St) (Es : List Ef) (X : Nat → Bool) : Nat → St
  | 0 => st
  | k + 1 => match X k, Es[k]? with | true, some e => (sig st Es X k).ap e | _, _ => sig st Es X k
theorem sig_length (st : St) (Es : List Ef) (X : Nat → Bool) : ∀ k, (sig st Es X k).env.length = st.env.length
  | 0 => rfl
  | k + 1 => by rw [sig]; split <;> simp [sig_length st Es X k]
theorem sig_k (st : St) (Es : List Ef) (X : Nat → Bool) : ∀ k, (sig st Es X k).k = st.k
  | 0 => rfl
  | k + 1 => by rw [sig]; split <;> simp [St.ap, sig_k st Es X k]
theorem sig_at (st : St) (Es : List Ef) (X : Nat → Bool) (k : Nat) (l : Loc) : (sig st Es X (k + 1)).at l =
    match X k, Es[k]? with | true, some e => (e.wr st.env.length l).getD ((sig st Es X k).at l) | _, _ => (sig st Es X k).at l := by
  rw [sig]
  cases X k <;> cases Es[k]? <;> simp [at_ap, sig_length]
theorem sig_read {st : St} {Es : List Ef} {X : Nat → Bool} {l : Loc} {i : Nat}
    (h : ∀ (j : Nat) (e : Ef), Es[j]? = some e → (e.wr st.env.length l).isSome = true → (j < i → X j = true) ∧ (i ≤ j → X j = false)) :
    ∀ k, (sig st Es X k).at l = (sig st Es (fun _ => true) (min k i)).at l
  | 0 => by rw [Nat.zero_min]; rfl
  | k + 1 => by
    have ih := sig_read h k
    by_cases hk : k < i
    · rw [show min (k + 1) i = k + 1 by omega, sig_at, sig_at]
      rw [show min k i = k by omega] at ih
      cases he : Es[k]? with
      | none => cases X k <;> exact ih
      | some e =>
        cases hw : e.wr st.env.length l with
        | none => cases X k <;> simpa [hw] using ih
        | some c =>
          have := (h k e he (by simp [hw])).1 hk
          simp [this, hw]
    · rw [show min (k + 1) i = min k i by omega, sig_at, ← ih]
      cases he : Es[k]? with
      | none => cases X k <;> rfl
      | some e =>
        cases hw : e.wr st.env.length l with
        | none => cases X k <;> simp [hw]
        | some c =>
          have := (h k e he (by simp [hw])).2 (by omega)
          simp [this]
theorem sig_below {st : St} {Es : List Ef} {X Y : Nat → Bool} {i : Nat} (h : ∀ j, j < i → X j = Y j) : ∀ k, k ≤ i → sig st Es X k = sig st Es Y k
  | 0, _ => rfl
  | k + 1, hk => by rw [sig, sig, sig_below h k (by omega), h k (by omega)]
theorem sig_more {st : St} {Es : List Ef} {X Y : Nat → Bool} {i : Nat} {ei : Ef} {l : Loc} (hi : Es[i]? = some ei) (hX : X i = false) (hY : Y i = true) (hne : ∀ j, j ≠ i → Y j = X j)
    (h : ∀ (j : Nat) (e : Ef), Es[j]? = some e → i < j → (ei.wr st.env.length l).isSome = true → (e.wr st.env.length l).isSome = true → X j = false) :
    ∀ k, i < k → (sig st Es Y k).at l = (ei.wr st.env.length l).getD ((sig st Es X k).at l)
  | 0, hk => by omega
  | k + 1, hk => by
    by_cases hki : k = i
    · subst hki
      rw [sig_at, sig_at, hX, hY, hi, sig_below (Y := X) (i := k) (fun j hj => hne j (by omega)) k (Nat.le_refl _)]
    · have ih := sig_more hi hX hY hne h k (by omega)
      rw [sig_at, sig_at, hne k hki, ih]
      cases hx : X k with
      | false => rfl
      | true =>
        cases he : Es[k]? with
        | none => rfl
        | some e =>
          cases hw : e.wr st.env.length l with
          | none => simp [hw]
          | some c =>
            cases hwi : ei.wr st.env.length l with
            | none => simp [hw]
            | some c' =>
              have := h k e he (by omega) (by simp [hwi]) (by simp [hw])
              rw [hx] at this; cases this

section
variable (P : Program)
/-- One operation: wherever what it looks at is as here, it comes back, with that value and those blocks written. -/
def OpRun (o : Oper) (st : St) (R : List Loc) (val : A) (bl : List (Nat × Blk)) : Prop :=
  ∀ st' : St, (∀ l ∈ R, st'.at l = st.at l) → st'.env.length = st.env.length → ∀ (cx : Cx) (m : Mp) (S : Nat → Prop) (a : Act) (w : World), Sim cx m S a w st' →
    RunsUpon P (fun v w' => ∃ m' S', Le m m' ∧ (∀ b, S b → S' b) ∧ Keeps S w w' ∧ Hold cx m' S' w' (putB st'.H bl) ∧ Rep m' S' w' val v) ((execOp a.eval o).run P w)
def gSlot (ops : Array Oper) (o : Oper) : Option Nat := match o.guard with | none => none | some (j, _) => (ops[j]?).bind (·.dst)
def gLoc (ops : Array Oper) (o : Oper) : List Loc := match gSlot ops o with | some t => [.tmp t] | none => []
def gYes (ops : Array Oper) (st : St) (o : Oper) : Bool :=
  match o.guard with
  | none => true
  | some (_, want) => match gSlot ops o with
    | some t => (match st.env.getD t .top with | .d (.lit (.bool b)) => b == want | _ => false)
    | none => false
def gNo (ops : Array Oper) (st : St) (o : Oper) : Bool :=
  match o.guard with
  | none => false
  | some (_, want) => match gSlot ops o with
    | some t => (match st.env.getD t .top with | .d (.lit (.bool b)) => b != want | .tup [] => true | _ => false)
    | none => false
def Walk (ops : Array Oper) (K : St → List Ef → Prop) : List Oper → St → List Ef → Prop
  | [], st, F => K st F
  | o :: l, st, F =>
    (gNo ops st o = true ∧ Walk ops K l (st.put o.dst (.tup []) []) (F ++ [⟨o.dst, .tup [], [], gLoc ops o⟩])) ∨
    (gYes ops st o = true ∧ ∃ R val bl, OpRun P o st R val bl ∧ Walk ops K l (st.put o.dst val bl) (F ++ [⟨o.dst, val, bl, gLoc ops o ++ R⟩]))
end
theorem Sim.put {cx : Cx} {m m' : Mp} {S S' : Nat → Prop} {a : Act} {w w' : World} {st : St} (h : Sim cx m S a w st) {dst : Option Nat} {val : A} {bl : List (Nat × Blk)} {v : Value}
    (hm : Le m m') (hS : ∀ b, S b → S' b) (hk : Keeps S w w') (hh : Hold cx m' S' w' (putB st.H bl)) (hv : Rep m' S' w' val v) : Sim cx m' S' (a.put dst v) w' (st.put dst val bl) := by
  refine ⟨hh, ?_, ?_, h.pre⟩
  · have h1 := Reps.mono hm hS hk _ _ h.env
    cases dst with
    | none => exact h1
    | some d =>
      simp only [St.put, Act.put, Array.toList_setIfInBounds]
      exact h1.set d hv
  · cases dst <;> exact h.df
theorem Sim.slot {cx : Cx} {m : Mp} {S : Nat → Prop} {a : Act} {w : World} {st : St} (h : Sim cx m S a w st) (t : Nat) : Rep m S w (st.env.getD t .top) (a.tmps.getD t undef) := by
  rw [List.getD_eq_getElem?_getD]
  cases hx : st.env[t]? with
  | none => simp only [Option.getD_none, Rep]
  | some x =>
    obtain ⟨v, h1, h2⟩ := h.env.at t x hx
    have : a.tmps[t]? = some v := by rw [← Array.getElem?_toList]; exact h1
    simp only [Option.getD_some, Array.getD_eq_getD_getElem?, this]
    exact h2
theorem Sim.slot_some {cx : Cx} {m : Mp} {S : Nat → Prop} {a : Act} {w : World} {st : St} (h : Sim cx m S a w st) {t : Nat} (ht : t < st.env.length) : ∃ v, a.tmps[t]? = some v ∧ Rep m S w (st.env.getD t .top) v := by
  have h0 : st.env[t]? = some st.env[t] := by simp [ht]
  obtain ⟨v, h1, h2⟩ := h.env.at t _ h0
  refine ⟨v, by rw [← Array.getElem?_toList]; exact h1, ?_⟩
  rw [List.getD_eq_getElem?_getD, h0]; exact h2
theorem wanted_yes {ops : Array Oper} {cx : Cx} {m : Mp} {S : Nat → Prop} {a : Act} {w : World} {st : St} {o : Oper} (h : Sim cx m S a w st) (hg : gYes ops st o = true) : Region.wanted o (yielded ops a.tmps) = true := by
  rw [wanted_env]
  unfold gYes gSlot at hg
  unfold wantedρ
  cases hgd : o.guard with
  | none => rfl
  | some gw =>
    obtain ⟨j, want⟩ := gw
    rw [hgd] at hg
    simp only at hg ⊢
    cases ht : (ops[j]?).bind (·.dst) with
    | none => rw [ht] at hg; cases hg
    | some t =>
      rw [ht] at hg
      have hs := h.slot t
      simp only [Act.fn] at hg ⊢
      split at hg
      · rename_i b hb
        rw [hb] at hs
        simp only [Rep, RepD] at hs
        rw [hs.1]
        simp_all
      · cases hg
theorem wanted_not {ops : Array Oper} {cx : Cx} {m : Mp} {S : Nat → Prop} {a : Act} {w : World} {st : St} {o : Oper} (h : Sim cx m S a w st) (hg : gNo ops st o = true) : Region.wanted o (yielded ops a.tmps) = false := by
  rw [wanted_env]
  unfold gNo gSlot at hg
  unfold wantedρ
  cases hgd : o.guard with
  | none => rw [hgd] at hg; cases hg
  | some gw =>
    obtain ⟨j, want⟩ := gw
    rw [hgd] at hg
    simp only at hg ⊢
    cases ht : (ops[j]?).bind (·.dst) with
    | none => rfl
    | some t =>
      rw [ht] at hg
      have hs := h.slot t
      simp only [Act.fn] at hg ⊢
      split at hg
      · rename_i b hb
        rw [hb] at hs
        simp only [Rep, RepD] at hs
        rw [hs.1]
        simp_all
      · rename_i hb
        rw [hb] at hs
        simp only [Rep, Reps] at hs
        obtain ⟨vs, hv, _⟩ := hs
        rw [hv]
        rfl
      · cases hg

section
variable {P : Program} {ops : Array Oper} {Q : Exit → Act → World → Prop}
/-- A region in the text's order. -/
theorem walk_list {cx : Cx} {K : St → List Ef → Prop} (hQ : ∀ st F m S a w, K st F → Sim cx m S a w st → Q .normal a w) :
    ∀ (l : List Oper) (st : St) (F : List Ef) (m : Mp) (S : Nat → Prop) (a : Act) (w : World), Walk P ops K l st F → Sim cx m S a w st → wpList P ops Q l a w
  | [], st, F, m, S, a, w, h, hs => hQ st F m S a w h hs
  | o :: l, st, F, m, S, a, w, h, hs => by
    unfold wpList
    rcases h with ⟨hg, h⟩ | ⟨hg, R, val, bl, hop, h⟩
    · rw [if_neg (by rw [wanted_not hs hg]; simp)]
      exact walk_list hQ l _ _ m S _ w h (hs.put (bl := []) (Le.refl m) (fun _ h => h) (Keeps.refl S w) hs.hold (by simp only [Rep, Reps]; exact ⟨_, rfl, rfl⟩))
    · rw [if_pos (wanted_yes hs hg)]
      left
      have h1 := hop st (fun _ _ => rfl) rfl cx m S a w hs
      exact h1.wp fun v w' ⟨m', S', k1, k2, k3, k4, k5⟩ => walk_list hQ l _ _ m' S' _ w' h (hs.put k1 k2 k3 k4 k5)

/-- What is known of one operation in the text's order. -/
def StepOK (P : Program) (ops : Array Oper) (o : Oper) (st : St) (e : Ef) : Prop := e.dst = o.dst ∧
  ((gNo ops st o = true ∧ e.val = .tup [] ∧ e.bl = [] ∧ e.R = gLoc ops o) ∨ (gYes ops st o = true ∧ ∃ R, OpRun P o st R e.val e.bl ∧ e.R = gLoc ops o ++ R))
theorem sig_shift (st : St) (e : Ef) (Es : List Ef) : ∀ k, sig st (e :: Es) (fun _ => true) (k + 1) = sig (st.ap e) Es (fun _ => true) k
  | 0 => rfl
  | k + 1 => by rw [sig, sig_shift st e Es k, sig]; simp
theorem walk_parts {K : St → List Ef → Prop} : ∀ (l : List Oper) (st : St) (F : List Ef), Walk P ops K l st F →
    ∃ Es : List Ef, Es.length = l.length ∧ (∀ i o e, l[i]? = some o → Es[i]? = some e → StepOK P ops o (sig st Es (fun _ => true) i) e) ∧ K (sig st Es (fun _ => true) l.length) (F ++ Es)
  | [], st, F, h => ⟨[], rfl, fun i o e ho => by simp at ho, by simpa only [sig, List.length_nil, List.append_nil, Walk] using h⟩
  | o :: l, st, F, h => by
    have key : ∃ e, StepOK P ops o st e ∧ Walk P ops K l (st.ap e) (F ++ [e]) := by
      rcases h with ⟨hg, h⟩ | ⟨hg, R, val, bl, hop, h⟩
      · exact ⟨⟨o.dst, .tup [], [], gLoc ops o⟩, ⟨rfl, .inl ⟨hg, rfl, rfl, rfl⟩⟩, h⟩
      · exact ⟨⟨o.dst, val, bl, gLoc ops o ++ R⟩, ⟨rfl, .inr ⟨hg, R, hop, rfl⟩⟩, h⟩
    obtain ⟨e, he, hw⟩ := key
    obtain ⟨Es, h1, h2, h3⟩ := walk_parts l _ _ hw
    refine ⟨e :: Es, by simp [h1], fun i o' e' ho hE => ?_, by rw [List.length_cons, sig_shift]; simpa using h3⟩
    cases i with
    | zero => simp only [List.getElem?_cons_zero, Option.some.injEq] at ho hE; subst ho; subst hE; exact he
    | succ i => rw [sig_shift]; exact h2 i o' e' (by simpa using ho) (by simpa using hE)
end

/-! ### the order may be drawn -/
def locEq : Loc → Loc → Bool
  | .tmp a, .tmp b => Nat.beq a b
  | .blk a, .blk b => Nat.beq a b
  | _, _ => false
theorem locEq_iff {a b : Loc} : locEq a b = true ↔ a = b := by
  cases a <;> cases b <;> first | (simp only [locEq, Loc.tmp.injEq, Loc.blk.injEq]; exact ⟨Nat.eq_of_beq_eq_true, fun h => by subst h; exact Nat.beq_refl _⟩) | (constructor <;> intro h <;> cases h)
def chkF (ops : Array Oper) (F : List Ef) : Bool :=
  let pre := preOf ops.toList
  let Ws := F.map Ef.W
  Nat.beq F.length ops.size &&
  (List.range ops.size).all fun i => match ops[i]?, F[i]? with
    | some o, some e => Nat.beq (pre.getD i 0) (preAt pre o) && (o.after.toList.filter (Region.binds .any)).all (fun g => Nat.blt g.on i) &&
      (e.R ++ e.W).all fun l => (List.range ops.size).all fun j => !((Ws.getD j []).any (locEq l)) || Nat.beq j i || (match Nat.blt j i with | true => (pre.getD i 0).testBit j | false => (pre.getD j 0).testBit i)
    | _, _ => false
structure ChkF (ops : Array Oper) (F : List Ef) (pre : Nat → Nat → Prop) : Prop where
  len : F.length = ops.size
  clo : ∀ (i : Nat) (o : Oper) (j : Nat), ops[i]? = some o → pre i j → ∃ e ∈ o.after, Region.binds .any e = true ∧ (e.on = j ∨ pre e.on j)
  lt : ∀ (i : Nat) (o : Oper), ops[i]? = some o → ∀ e ∈ o.after, Region.binds .any e = true → e.on < i
  nm : ∀ (i j : Nat) (e ej : Ef) (l : Loc), F[i]? = some e → F[j]? = some ej → l ∈ e.R ++ e.W → l ∈ ej.W → j ≠ i → (j < i → pre i j) ∧ (i < j → pre j i)
theorem chkF_of (ops : Array Oper) (F : List Ef) (h : chkF ops F = true) : ChkF ops F (fun i j => ((preOf ops.toList).getD i 0).testBit j = true) := by
  unfold chkF at h
  simp only [Bool.and_eq_true] at h
  obtain ⟨hlen, h⟩ := h
  have hl : F.length = ops.size := Nat.eq_of_beq_eq_true hlen
  have key : ∀ i o e, ops[i]? = some o → F[i]? = some e → (preOf ops.toList).getD i 0 = preAt (preOf ops.toList) o ∧ (∀ g ∈ o.after, Region.binds .any g = true → g.on < i) ∧
      ∀ l ∈ e.R ++ e.W, ∀ j ej, F[j]? = some ej → l ∈ ej.W → j ≠ i → (j < i → ((preOf ops.toList).getD i 0).testBit j = true) ∧ (i < j → ((preOf ops.toList).getD j 0).testBit i = true) := by
    intro i o e ho he
    have hi : i < ops.size := (Array.getElem?_eq_some_iff.1 ho).1
    have := List.all_eq_true.1 h i (List.mem_range.2 hi)
    simp only [ho, he, Bool.and_eq_true] at this
    obtain ⟨⟨h1, h2⟩, h3⟩ := this
    refine ⟨Nat.eq_of_beq_eq_true h1, fun g hg hb => ?_, fun l hl' j ej hej hlj hne => ?_⟩
    · have := List.all_eq_true.1 h2 g (List.mem_filter.2 ⟨by simpa using hg, hb⟩)
      simpa [Nat.blt_eq] using this
    · have hj : j < ops.size := by rw [← hl]; exact (List.getElem?_eq_some_iff.1 hej).1
      have h4 := List.all_eq_true.1 (List.all_eq_true.1 h3 l hl') j (List.mem_range.2 hj)
      have hw : ((F.map Ef.W).getD j []).any (locEq l) = true := by
        rw [List.getD_eq_getElem?_getD, List.getElem?_map, hej]
        simp only [Option.map_some, Option.getD_some]
        exact List.any_eq_true.2 ⟨l, hlj, locEq_iff.2 rfl⟩
      rw [hw] at h4
      simp only [Bool.not_true, Bool.false_or, Bool.or_eq_true] at h4
      rcases h4 with h4 | h4
      · exact absurd (Nat.eq_of_beq_eq_true h4) hne
      · refine ⟨fun hlt => ?_, fun hlt => ?_⟩
        · have hb : Nat.blt j i = true := by simpa [Nat.blt_eq] using hlt
          rw [hb] at h4; exact h4
        · have hb : Nat.blt j i = false := by
            cases hb : Nat.blt j i with
            | false => rfl
            | true => rw [Nat.blt_eq] at hb; omega
          rw [hb] at h4; exact h4
  have getF : ∀ i o, ops[i]? = some o → ∃ e, F[i]? = some e := fun i o ho => by
    have hi : i < ops.size := (Array.getElem?_eq_some_iff.1 ho).1
    exact ⟨F[i]'(by omega), List.getElem?_eq_getElem (by omega)⟩
  refine ⟨hl, fun i o j ho hp => ?_, fun i o ho => ?_, fun i j e ej l he hej hle hlj hne => ?_⟩
  · obtain ⟨e, he⟩ := getF i o ho
    rw [(key i o e ho he).1] at hp
    obtain ⟨x, hx, hb⟩ := testBit_orAll hp
    obtain ⟨e, he, rfl⟩ := List.mem_map.1 hx
    obtain ⟨he1, he2⟩ := List.mem_filter.1 he
    refine ⟨e, by simpa using he1, he2, ?_⟩
    rw [Nat.testBit_or, Bool.or_eq_true] at hb
    rcases hb with hb | hb
    · left; simpa [Nat.testBit_two_pow] using hb
    · right; exact hb
  · obtain ⟨e, he⟩ := getF i o ho
    exact (key i o e ho he).2.1
  · have hi : i < ops.size := by rw [← hl]; exact (List.getElem?_eq_some_iff.1 he).1
    exact (key i ops[i] e (by simp [hi]) he).2.2 l hle j ej hej hlj hne

theorem St.ext_at {st st' : St} (hl : st'.env.length = st.env.length) (h : ∀ l, st'.at l = st.at l) : st'.env = st.env ∧ ∀ id, st'.H.getD id .unborn = st.H.getD id .unborn := by
  constructor
  · apply List.ext_getElem hl
    intro i h1 h2
    have := h (.tmp i)
    simp only [St.at, Ct.a.injEq, List.getD_eq_getElem?_getD] at this
    simpa [h1, h2] using this
  · intro id
    have := h (.blk id)
    simpa [St.at] using this
theorem Sim.congr {cx : Cx} {m : Mp} {S : Nat → Prop} {a : Act} {w : World} {st st' : St} (hs : Sim cx m S a w st) (hk : st'.k = st.k) (hl : st'.env.length = st.env.length) (h : ∀ l, st'.at l = st.at l) : Sim cx m S a w st' := by
  obtain ⟨h1, h2⟩ := St.ext_at hl h
  exact ⟨hs.hold.congr h2, by rw [h1]; exact hs.env, hs.df, by rw [hk]; exact hs.pre⟩

section
variable {P : Program} {ops : Array Oper} {Q : Exit → Act → World → Prop} {pre : Nat → Nat → Prop} {st0 : St} {Es : List Ef} {cx : Cx}
structure InvF (pre : Nat → Nat → Prop) (cx : Cx) (st0 : St) (Es : List Ef) (listed : Array Bool) (a : Act) (w : World) : Prop where
  down : ∀ i j, listed.getD i false = true → pre i j → listed.getD j false = true
  sim : ∃ m S st, Sim cx m S a w st ∧ st.k = st0.k ∧ st.env.length = st0.env.length ∧ ∀ l, st.at l = (sig st0 Es (fun j => listed.getD j false) Es.length).at l
theorem sig_all {st : St} {Es : List Ef} {X : Nat → Bool} (h : ∀ i, i < Es.length → X i = true) : sig st Es X Es.length = sig st Es (fun _ => true) Es.length :=
  sig_below (fun j hj => h j hj) _ (Nat.le_refl _)
theorem wpAny_walk (hc : ChkF ops Es pre) (hstep : ∀ i o e, ops[i]? = some o → Es[i]? = some e → StepOK P ops o (sig st0 Es (fun _ => true) i) e)
    (hQ : ∀ m S a w, Sim cx m S a w (sig st0 Es (fun _ => true) Es.length) → Q .normal a w) :
    ∀ (fuel : Nat) (listed : Array Bool) (a : Act) (w : World), listed.size = ops.size → listed.toList.countP (· == false) = fuel → InvF pre cx st0 Es listed a w → wpAny P .any ops Q fuel listed a w := by
  have hlen := hc.len
  intro fuel
  induction fuel with
  | zero =>
    intro listed a w hsz hcnt hI
    have hall : ∀ i, i < listed.size → listed.getD i false = true := fun i hi => by
      have := List.countP_eq_zero.1 hcnt listed[i] (by simp)
      simpa [hi] using this
    obtain ⟨m, S, st, h1, hk1, h2, h3⟩ := hI.sim
    refine ⟨?_, hQ m S a w (h1.congr (by rw [sig_k, hk1]) (by rw [sig_length, h2]) fun l => by rw [h3, sig_all fun i hi => hall i (by omega)])⟩
    cases hr : Region.ready .any ops listed with
    | nil => rfl
    | cons x l =>
      have hx : x ∈ Region.ready .any ops listed := by rw [hr]; simp
      obtain ⟨h0, o, ho, _⟩ := mem_ready.1 hx
      have := hall x (by rw [hsz]; exact (Array.getElem?_eq_some_iff.1 ho).1)
      rw [getD_tf h0] at this; cases this
  | succ fuel ih =>
    intro listed a w hsz hcnt hI
    have tf : ∀ i, i < ops.size → listed.getD i false = false → listed.getD i true = false := fun i hi h => by
      simpa [Array.getD_eq_getD_getElem?, show i < listed.size by omega] using h
    have hex : ∃ i, i < ops.size ∧ listed.getD i false = false ∧ ∀ j, j < i → listed.getD j false = true := by
      have hex0 : ∃ i, i < ops.size ∧ listed.getD i false = false := by
        apply Classical.byContradiction
        intro hne
        have : listed.toList.countP (· == false) = 0 := by
          refine List.countP_eq_zero.2 fun b hb => ?_
          obtain ⟨i, hi, rfl⟩ := List.getElem_of_mem hb
          have hi' : i < listed.size := by simpa using hi
          cases hl : listed.getD i false with
          | true => simpa [hi'] using hl
          | false => exact absurd ⟨i, by omega, hl⟩ hne
        omega
      obtain ⟨i, hi, hl⟩ := hex0
      induction i using Nat.strongRecOn with
      | ind i ihi =>
        by_cases hj : ∀ j, j < i → listed.getD j false = true
        · exact ⟨i, hi, hl, hj⟩
        · have : ∃ j, j < i ∧ listed.getD j false = false := by
            apply Classical.byContradiction
            intro hne
            exact hj fun j hj => by
              cases hl : listed.getD j false with
              | true => rfl
              | false => exact absurd ⟨j, hj, hl⟩ hne
          obtain ⟨j, hji, hjl⟩ := this
          exact ihi j hji (by omega) hjl
    obtain ⟨i0, hi0, hl0, hbelow⟩ := hex
    have hrdy : i0 ∈ Region.ready .any ops listed := mem_ready.2 ⟨tf i0 (by omega) hl0, ops[i0], by simp, fun e he hb => hbelow _ (hc.lt i0 _ (by simp) e he hb)⟩
    refine ⟨fun hn => (by rw [hn] at hrdy; cases hrdy), fun i hi => ?_⟩
    obtain ⟨hun, o, ho, hed⟩ := mem_ready.1 hi
    have his : i < ops.size := (Array.getElem?_eq_some_iff.1 ho).1
    have hpre : ∀ j, pre i j → listed.getD j false = true := fun j hp => by
      obtain ⟨e, he, hb, h' | h'⟩ := hc.clo i o j ho hp
      · rw [← h']; exact hed e he hb
      · exact hI.down _ _ (hed e he hb) h'
    have hEi : Es[i]? = some (Es[i]'(by omega)) := by simp [show i < Es.length by omega]
    generalize he : (Es[i]'(by omega)) = e at hEi
    obtain ⟨hd, hst⟩ := hstep i o e ho hEi
    have hXi : (fun j => listed.getD j false) i = false := getD_tf hun
    have hne : ∀ j, j ≠ i → (listed.setIfInBounds i true).getD j false = listed.getD j false := fun j hj => getD_set_ne false (Ne.symm hj)
    have hlook : ∀ l ∈ e.R, (sig st0 Es (fun j => listed.getD j false) Es.length).at l = (sig st0 Es (fun _ => true) i).at l := fun l hl => by
      rw [sig_read (i := i) (fun j ej hej hw => ?_), show min Es.length i = i by omega]
      have hlj : l ∈ ej.W := Ef.wr_W hw
      by_cases hji : j = i
      · subst hji; exact ⟨fun h => by omega, fun _ => hXi⟩
      · have hn := hc.nm i j e ej l hEi hej (by simp [hl]) hlj hji
        refine ⟨fun h => hpre j (hn.1 h), fun h => ?_⟩
        cases hlt : listed.getD j false with
        | false => rfl
        | true => have := hI.down j i hlt (hn.2 (by omega)); simp only at hXi; rw [hXi] at this; cases this
    have hmore : ∀ l, (sig st0 Es (fun j => (listed.setIfInBounds i true).getD j false) Es.length).at l = (e.wr st0.env.length l).getD ((sig st0 Es (fun j => listed.getD j false) Es.length).at l) := fun l =>
      sig_more hEi hXi (getD_set_self hun) (fun j hj => hne j hj) (fun j ej hej hij h1 h2 => by
        have hn := hc.nm i j e ej l hEi hej (by simp [Ef.wr_W h1]) (Ef.wr_W h2) (by omega)
        show listed.getD j false = false
        cases hlt : listed.getD j false with
        | false => rfl
        | true => have := hI.down j i hlt (hn.2 hij); simp only at hXi; rw [hXi] at this; cases this) Es.length (by omega)
    have hcnt' : (listed.setIfInBounds i true).toList.countP (· == false) = fuel := by
      have hil : i < listed.toList.length := by simp [hsz, his]
      have hb : listed.toList[i] = false := by simpa [show i < listed.size by omega] using getD_tf hun
      rw [Array.toList_setIfInBounds, List.countP_set hil, hb, hcnt]
      rfl
    have hdown : ∀ k j, (listed.setIfInBounds i true).getD k false = true → pre k j → (listed.setIfInBounds i true).getD j false = true := fun k j hk hp => by
      by_cases hki : k = i
      · subst hki; exact getD_set_true (hpre j hp)
      · rw [hne k hki] at hk; exact getD_set_true (hI.down k j hk hp)
    obtain ⟨m, S, st, h1, hk1, h2, h3⟩ := hI.sim
    -- the next state, whatever the operation did
    have next : ∀ m' S' v w', Le m m' → (∀ b, S b → S' b) → Keeps S w w' → Hold cx m' S' w' (putB st.H e.bl) → Rep m' S' w' e.val v → wpAny P .any ops Q fuel (listed.setIfInBounds i true) (a.put o.dst v) w' := by
      intro m' S' v w' k1 k2 k3 k4 k5
      refine ih _ _ _ (by simp [hsz]) hcnt' ⟨hdown, m', S', st.ap e, ?_, by simp [St.ap, hk1], by simp [h2], fun l => ?_⟩
      · rw [St.ap, hd]; exact h1.put k1 k2 k3 k4 k5
      · rw [at_ap, h2, h3, hmore]
    -- the guard's slot is as in the text's order
    have hg : ∀ t, gSlot ops o = some t → (Loc.tmp t) ∈ e.R → st.env.getD t .top = (sig st0 Es (fun _ => true) i).env.getD t .top := fun t _ hm => by
      have := (h3 (.tmp t)).trans (hlook _ hm)
      simpa [St.at] using this
    have gmem : ∀ t, gSlot ops o = some t → (Loc.tmp t) ∈ e.R := fun t ht => by
      rcases hst with ⟨_, _, _, hR⟩ | ⟨_, R, _, hR⟩ <;> rw [hR] <;> simp [gLoc, ht]
    have gy : gYes ops st o = gYes ops (sig st0 Es (fun _ => true) i) o := by
      unfold gYes
      cases hgd : o.guard with
      | none => rfl
      | some gw =>
        obtain ⟨_, want⟩ := gw
        cases ht : gSlot ops o with
        | none => rfl
        | some t => simp only; rw [hg t ht (gmem t ht)]
    have gn : gNo ops st o = gNo ops (sig st0 Es (fun _ => true) i) o := by
      unfold gNo
      cases hgd : o.guard with
      | none => rfl
      | some gw =>
        obtain ⟨_, want⟩ := gw
        cases ht : gSlot ops o with
        | none => rfl
        | some t => simp only; rw [hg t ht (gmem t ht)]
    unfold wpOp
    simp only [ho]
    rcases hst with ⟨hno, hval, hbl, hR⟩ | ⟨hyes, R, hop, hR⟩
    · rw [if_neg (by rw [wanted_not h1 (by rw [gn]; exact hno)]; simp)]
      exact next m S undef w (Le.refl m) (fun _ h => h) (Keeps.refl S w) (by rw [hbl]; exact h1.hold) (by rw [hval]; simp only [Rep, Reps]; exact ⟨_, rfl, rfl⟩)
    · rw [if_pos (wanted_yes h1 (by rw [gy]; exact hyes))]
      left
      have h4 := hop st (fun l hl => by rw [h3]; exact hlook l (by rw [hR]; simp [hl])) (by rw [h2, sig_length]) cx m S a w h1
      exact h4.wp fun v w' ⟨m', S', k1, k2, k3, k4, k5⟩ => next m' S' v w' k1 k2 k3 k4 k5
end
section
variable {P : Program} {Q : Exit → Act → World → Prop} {cx : Cx} {m : Mp} {S : Nat → Prop} {a : Act} {w : World} {st : St}
theorem region_drawn {id : Nat} (l : List Oper) (hm : P.follows .mixedOrders = true) (K : St → Prop) (h : Walk P l.toArray (fun st' F => chkF l.toArray F = true ∧ K st') l st [])
    (hs : Sim cx m S a w st) (hQ : ∀ st' m' S' a' w', K st' → Sim cx m' S' a' w' st' → Q .normal a' w') : (Code.region id l.toArray true).wp P Q a w := by
  obtain ⟨Es, h1, h2, h3, h4⟩ := walk_parts l st [] h
  rw [List.nil_append] at h3
  have hc := chkF_of _ _ h3
  have hs' : Sim cx m S a w.drew st := ⟨hs.hold.drew, Reps.mono (w := w) (w' := w.drew) (Le.refl m) (fun _ h => h) (fun _ _ => rfl) _ _ hs.env, hs.df, hs.pre⟩
  have allF : ∀ i, (Array.replicate l.toArray.size false).getD i false = false := by
    intro i
    rw [Array.getD_eq_getD_getElem?, Array.getElem?_replicate]
    split <;> rfl
  refine wp_region_any hm (wpAny_walk (st0 := st) (Es := Es) (cx := cx) hc (fun i o e ho he => h2 i o e (by simpa using ho) he) (fun m S a w hsim => hQ _ m S a w h4 (by rw [← h1]; exact hsim)) _ _ _ _ (by simp) ?_ ?_)
  · simp [List.countP_replicate]
  · refine ⟨fun i j hi _ => ?_, m, S, st, hs', rfl, rfl, fun lc => ?_⟩
    · rw [allF] at hi; cases hi
    · have : ∀ k, sig st Es (fun j => (Array.replicate l.toArray.size false).getD j false) k = st := by
        intro k
        induction k with
        | zero => rfl
        | succ k ih => rw [sig, ih, allF]
      rw [this]
theorem region_text {id : Nat} (l : List Oper) (K : St → Prop) (h : Walk P l.toArray (fun st' F => K st') l st [])
    (hs : Sim cx m S a w st) (hQ : ∀ st' m' S' a' w', K st' → Sim cx m' S' a' w' st' → Q .normal a' w') : (Code.region id l.toArray false).wp P Q a w :=
  wp_region_list (by simpa using walk_list (cx := cx) (fun st F m S a w hk hsim => hQ st m S a w hk hsim) l st [] m S a w h hs)
end
end Go.Proofs.Ytdpmojhejidhiaa.K
