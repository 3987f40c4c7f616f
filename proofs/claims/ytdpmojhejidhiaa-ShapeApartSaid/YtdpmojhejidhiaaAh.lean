/- How the blocks change; the operations that only compute. -/
import Derived.Test.YtdpmojhejidhiaaAg
namespace Go.Proofs.Ytdpmojhejidhiaa.K
open Go.RowKit
set_option linter.unusedVariables false
set_option linter.unusedSimpArgs false

/-- The blocks T have changed, and none else. -/
theorem Hold.change {cx : Cx} {m m' : Mp} {S : Nat → Prop} {w w' : World} {H H' : List Blk} (h : Hold cx m S w H) (T : Nat → Prop) (hLe : Le m m') (hos : w'.os = w.os) (htape : w'.tape = w.tape) (hout : w'.output = w.output)
    (hsize : w.heap.size ≤ w'.heap.size) (hheap : ∀ b, b < w.heap.size → w'.heap[b]? = w.heap[b]? ∨ ∃ id p, T id ∧ m id = some p ∧ p.blk = some b ∧ ¬ S b)
    (hoth : ∀ id, ¬ T id → m' id = m id ∧ H'.getD id .unborn = H.getD id .unborn)
    (hok : Keeps S w w' → ∀ id, T id → BlkOK m' S w' id (H'.getD id .unborn))
    (hpl : ∀ id p b, T id → m' id = some p → p.blk = some b → ((∃ id0 p0, T id0 ∧ m id0 = some p0 ∧ p0.blk = some b) ∨ w.heap.size ≤ b) ∧ b < w'.heap.size)
    (hap : ∀ id id' p p' b, T id → T id' → id ≠ id' → m' id = some p → m' id' = some p' → p.blk = some b → p'.blk ≠ some b) : Hold cx m' S w' H' ∧ Keeps S w w' := by
  have hK : Keeps S w w' := fun b hb => by
    rcases hheap b (h.s b hb).2 with h1 | ⟨id, p, _, _, _, hn⟩
    · exact h1
    · exact absurd hb hn
  refine ⟨⟨hos.trans h.os, htape.trans h.tape, hout.trans h.output, Nat.le_trans h.size hsize, fun b hb hP => ?_, h.s0, fun b hb => ⟨(h.s b hb).1, Nat.lt_of_lt_of_le (h.s b hb).2 hsize⟩, fun id p b hp hb => ?_, fun id id' p p' b hne hp hp' hb => ?_, fun id => ?_, h.le.trans hLe⟩, hK⟩
  · rcases hheap b (Nat.lt_of_lt_of_le hb h.size) with h1 | ⟨id, p, _, h2, h3, hn⟩
    · rw [h1, h.old b hb hP]
    · rcases (h.pl id p b h2 h3).1 with h4 | h4 | h4
      · exact absurd h4 hP
      · exact absurd (h.s0 b h4) hn
      · omega
  · by_cases hT : T id
    · obtain ⟨h1, h2⟩ := hpl id p b hT hp hb
      refine ⟨?_, h2⟩
      rcases h1 with ⟨id0, p0, _, h3, h4⟩ | h1
      · exact (h.pl id0 p0 b h3 h4).1
      · have := h.size; exact .inr (.inr (by omega))
    · rw [(hoth id hT).1] at hp
      exact ⟨(h.pl id p b hp hb).1, Nat.lt_of_lt_of_le (h.pl id p b hp hb).2 hsize⟩
  · have mix : ∀ k k' q q', T k → ¬ T k' → m' k = some q → m' k' = some q' → q.blk = some b → q'.blk ≠ some b := fun k k' q q' hk hk' h1 h2 h3 h4 => by
      rw [(hoth k' hk').1] at h2
      rcases (hpl k q b hk h1 h3).1 with ⟨id0, p0, h5, h6, h7⟩ | h5
      · exact h.apart id0 k' p0 q' b (fun e => hk' (e ▸ h5)) h6 h2 h7 h4
      · have := (h.pl k' q' b h2 h4).2; omega
    by_cases hT : T id
    · by_cases hT' : T id'
      · exact hap id id' p p' b hT hT' hne hp hp' hb
      · exact mix id id' p p' hT hT' hp hp' hb
    · by_cases hT' : T id'
      · exact fun hb' => mix id' id p' p hT' hT hp' hp hb' hb
      · rw [(hoth id hT).1] at hp; rw [(hoth id' hT').1] at hp'; exact h.apart id id' p p' b hne hp hp' hb
  · by_cases hT : T id
    · exact hok hK id hT
    · rw [(hoth id hT).2]
      refine (h.ok id).mono (hoth id hT).1 hLe (fun _ h => h) hK fun p g hp hg => ⟨?_, fun h => h⟩
      rcases hheap g (h.pl id p g hp hg).2 with h1 | ⟨k, q, h2, h3, h4, _⟩
      · exact h1
      · exact absurd hg (h.apart k id q p g (fun e => hT (e ▸ h2)) h3 hp h4)
def updM (m : Mp) (id : Nat) (p : Pl) : Mp := fun k => if k = id then some p else m k
/-- A new block. -/
theorem Hold.alloc {cx : Cx} {m : Mp} {S : Nat → Prop} {w : World} {H : List Blk} {id : Nat} (h : Hold cx m S w H) (hid : H.getD id .unborn = .unborn) (p : Pl) (hp : p.blk = some w.heap.size) (o : Obj) (b : Blk)
    (hok : Keeps S w (w.alloc o) → Le m (updM m id p) → BlkOK (updM m id p) S (w.alloc o) id b) : Le m (updM m id p) ∧ Keeps S w (w.alloc o) ∧ Hold cx (updM m id p) S (w.alloc o) (setAt H id b) := by
  have hm : m id = none := by have := h.ok id; rw [hid] at this; exact this
  have hLe : Le m (updM m id p) := fun k q hk => by
    by_cases e : k = id
    · subst e; rw [hm] at hk; cases hk
    · left; simp only [updM, e, if_false]; exact hk
  have := h.change (m' := updM m id p) (w' := w.alloc o) (H' := setAt H id b) (fun k => k = id) hLe rfl rfl rfl (by simp) (fun b hb => .inl (Below.heap_alloc w o b hb))
    (fun k hk => ⟨by simp only [updM, hk, if_false], by rw [getD_setAt, if_neg hk]⟩) (fun hK k hk => by subst hk; rw [getD_setAt, if_pos rfl]; exact hok hK hLe)
    (fun k q b hk hq hb => by subst hk; simp only [updM, if_true, Option.some.injEq] at hq; subst hq; rw [hp] at hb; cases hb; exact ⟨.inr (Nat.le_refl _), by simp⟩)
    (fun k k' q q' b hk hk' hne => by subst hk; subst hk'; exact absurd rfl hne)
  exact ⟨hLe, this.2, this.1⟩
/-- A block of our own is written. -/
theorem Hold.write {cx : Cx} {m : Mp} {S : Nat → Prop} {w w' : World} {H : List Blk} {id g : Nat} {p : Pl} (h : Hold cx m S w H) (hp : m id = some p) (hg : p.blk = some g) (hS : ¬ S g) (hos : w'.os = w.os) (htape : w'.tape = w.tape) (hout : w'.output = w.output)
    (hsize : w.heap.size ≤ w'.heap.size) (hheap : ∀ b, b < w.heap.size → b ≠ g → w'.heap[b]? = w.heap[b]?) (b : Blk) (hok : Keeps S w w' → BlkOK m S w' id b) : Keeps S w w' ∧ Hold cx m S w' (setAt H id b) := by
  have := h.change (m' := m) (w' := w') (H' := setAt H id b) (fun k => k = id) (Le.refl m) hos htape hout hsize (fun b hb => by
      by_cases e : b = g
      · subst e; exact .inr ⟨id, p, rfl, hp, hg, hS⟩
      · exact .inl (hheap b hb e))
    (fun k hk => ⟨rfl, by rw [getD_setAt, if_neg hk]⟩) (fun hK k hk => by subst hk; rw [getD_setAt, if_pos rfl]; exact hok hK)
    (fun k q b hk hq hb => by subst hk; rw [hp] at hq; cases hq; exact ⟨.inl ⟨k, p, rfl, hp, hb⟩, Nat.lt_of_lt_of_le (h.pl k p b hp hb).2 hsize⟩)
    (fun k k' q q' b hk hk' hne => by subst hk; subst hk'; exact absurd rfl hne)
  exact ⟨this.2, this.1⟩
/-- A new block that is frozen from the start. -/
theorem Hold.allocS {cx : Cx} {m : Mp} {S : Nat → Prop} {w w' : World} {H : List Blk} (h : Hold cx m S w H) (hos : w'.os = w.os) (htape : w'.tape = w.tape) (hout : w'.output = w.output) (hsize : w.heap.size < w'.heap.size)
    (hheap : ∀ b, b < w.heap.size → w'.heap[b]? = w.heap[b]?) : Keeps S w w' ∧ Hold cx m (fun b => S b ∨ b = w.heap.size) w' H := by
  have hK : Keeps S w w' := fun b hb => hheap b (h.s b hb).2
  refine ⟨hK, hos.trans h.os, htape.trans h.tape, hout.trans h.output, by have := h.size; omega, fun b hb hP => ?_, fun b hb => .inl (h.s0 b hb), fun b hb => ?_, fun id p b hp hb => ⟨(h.pl id p b hp hb).1, by have := (h.pl id p b hp hb).2; omega⟩, h.apart, fun id => ?_, h.le⟩
  · rw [hheap b (Nat.lt_of_lt_of_le hb h.size), h.old b hb hP]
  · rcases hb with hb | rfl
    · exact ⟨(h.s b hb).1, by have := (h.s b hb).2; omega⟩
    · exact ⟨.inr (.inr h.size), hsize⟩
  · refine (h.ok id).mono rfl (Le.refl m) (fun _ h => .inl h) hK fun p g hp hg => ⟨hheap g (h.pl id p g hp hg).2, ?_⟩
    rintro (h1 | h1)
    · exact h1
    · have := (h.pl id p g hp hg).2; omega

section
variable {P : Program} {o : Oper} {st : St}
theorem OpRun.cast {R : List Loc} {val val' : A} {bl : List (Nat × Blk)} (h : OpRun P o st R val bl) (e : val = val') : OpRun P o st R val' bl := e ▸ h
theorem OpRun.castB {R : List Loc} {val : A} {bl bl' : List (Nat × Blk)} (h : OpRun P o st R val bl) (e : bl = bl') : OpRun P o st R val bl' := e ▸ h
theorem OpRun.pure {R : List Loc} {val : A} (h : ∀ st' : St, (∀ l ∈ R, st'.at l = st.at l) → ∀ (cx : Cx) (m : Mp) (S : Nat → Prop) (a : Act) (w : World), Sim cx m S a w st' → ∃ v, (execOp a.eval o).run P w = .ok (.value v) w ∧ Rep m S w val v) : OpRun P o st R val [] := by
  intro st' hl _ cx m S a w hs
  obtain ⟨v, h1, h2⟩ := h st' hl cx m S a w hs
  rw [h1]
  exact ⟨m, S, Le.refl m, fun _ h => h, Keeps.refl S w, hs.hold, h2⟩
theorem op_rep {x : Operand} {y : A} (hx : opA st x = y) {R : List Loc} (hR : ∀ l ∈ locOf x, l ∈ R) {st' : St} (hl : ∀ l ∈ R, st'.at l = st.at l) {cx : Cx} {m : Mp} {S : Nat → Prop} {a : Act} {w : World} (hs : Sim cx m S a w st') : Rep m S w y (a.eval x) := by
  have := hs.op x
  rwa [opA_agree fun l h => hl l (hR l h), hx] at this
theorem op_lit {x : Operand} {v : Value} (hx : opA st x = .d (.lit v)) {R : List Loc} (hR : ∀ l ∈ locOf x, l ∈ R) {st' : St} (hl : ∀ l ∈ R, st'.at l = st.at l) {cx : Cx} {m : Mp} {S : Nat → Prop} {a : Act} {w : World} (hs : Sim cx m S a w st') : a.eval x = v := by
  have := op_rep hx hR hl hs
  simp only [Rep, RepD] at this
  exact this.1
/-- 'move', 'assign'. -/
theorem op_move {x : Operand} (ho : mvOf o.op = some x) : OpRun P o st (locOf x) (opA st x) [] := by
  refine .pure fun st' hl cx m S a w hs => ⟨a.eval x, ?_, op_rep rfl (fun _ h => h) hl hs⟩
  obtain ⟨dst, op, type, pos, after, guard⟩ := o
  cases op <;> simp only [mvOf] at ho <;> first | (cases ho; rfl) | cases ho
theorem op_pickT {c x y : Operand} (ho : o.op = .pick c x y) (hc : opA st c = .d (.lit (.bool true))) : OpRun P o st (locsOf [c, x]) (opA st x) [] := by
  refine .pure fun st' hl cx m S a w hs => ⟨a.eval x, ?_, op_rep rfl (fun l h => by simp [locsOf, h]) hl hs⟩
  have hb := op_lit hc (R := locsOf [c, x]) (fun l h => by simp [locsOf, h]) hl hs
  simp [execOp, ho, hb, asBool]
theorem op_pickF {c x y : Operand} (ho : o.op = .pick c x y) (hc : opA st c = .d (.lit (.bool false))) : OpRun P o st (locsOf [c, y]) (opA st y) [] := by
  refine .pure fun st' hl cx m S a w hs => ⟨a.eval y, ?_, op_rep rfl (fun l h => by simp [locsOf, h]) hl hs⟩
  have hb := op_lit hc (R := locsOf [c, y]) (fun l h => by simp [locsOf, h]) hl hs
  simp [execOp, ho, hb, asBool]
theorem op_extract {x : Operand} {i : Nat} {xs : List A} {y : A} (ho : o.op = .extract x i) (hx : opA st x = .tup xs) (hi : xs[i]? = some y) : OpRun P o st (locOf x) y [] := by
  refine .pure fun st' hl cx m S a w hs => ?_
  have hr := op_rep hx (fun _ h => h) hl hs
  simp only [Rep] at hr
  obtain ⟨vs, h1, h2⟩ := hr
  obtain ⟨v, h3, h4⟩ := h2.at i y hi
  refine ⟨v, ?_, h4⟩
  have : vs[i]? = some v := by rw [← Array.getElem?_toList]; exact h3
  simp [execOp, ho, h1, Instr.extract, this]
/-- An operation on two plain values. -/
theorem op_bin {op : BinOp} {t u : TypeId} {x y : Operand} {a1 a2 v : Value} (ho : o.op = .binOp op t x y u) (hx : opA st x = .d (.lit a1)) (hy : opA st y = .d (.lit a2))
    (hrun : ∀ w, (do eqGuard op t x y a1 a2; binOp op t a1 a2 : Sem Value).run P w = .ok v w) (h1 : v.oneCell' = true := by rfl) : OpRun P o st (locsOf [x, y]) (.d (.lit v)) [] := by
  refine .pure fun st' hl cx m S a w hs => ⟨v, ?_, by simp only [Rep]; unfold RepD; exact ⟨rfl, h1⟩⟩
  have h1 := op_lit hx (R := locsOf [x, y]) (fun l h => by simp [locsOf, h]) hl hs
  have h2 := op_lit hy (R := locsOf [x, y]) (fun l h => by simp [locsOf, h]) hl hs
  have := hrun w
  simp only [execOp, ho, h1, h2]
  rw [Sem.run_bind, this]; rfl
theorem op_un {op : UnOp} {t : TypeId} {x : Operand} {a1 v : Value} (ho : o.op = .unOp op t x) (hx : opA st x = .d (.lit a1)) (hrun : ∀ w, (Op.unary op a1).run P w = .ok v w) (h1 : v.oneCell' = true := by rfl) : OpRun P o st (locOf x) (.d (.lit v)) [] := by
  refine .pure fun st' hl cx m S a w hs => ⟨v, ?_, by simp only [Rep]; unfold RepD; exact ⟨rfl, h1⟩⟩
  have h1 := op_lit hx (fun _ h => h) hl hs
  simp only [execOp, ho, h1]
  rw [Sem.run_bind, hrun w]; rfl
theorem op_convert {s t : TypeId} {x : Operand} {a1 v : Value} (ho : o.op = .convert s t x) (hx : opA st x = .d (.lit a1)) (hrun : ∀ w, (convert s t a1).run P w = .ok v w) (h1 : v.oneCell' = true := by rfl) : OpRun P o st (locOf x) (.d (.lit v)) [] := by
  refine .pure fun st' hl cx m S a w hs => ⟨v, ?_, by simp only [Rep]; unfold RepD; exact ⟨rfl, h1⟩⟩
  have h1 := op_lit hx (fun _ h => h) hl hs
  simp only [execOp, ho, h1]
  rw [Sem.run_bind, hrun w]; rfl
theorem op_nilCheck {x : Operand} {y : A} (ho : o.op = .nilCheck x) (hx : opA st x = y) (hn : ∀ m S w v, Rep m S w y v → (∃ p, v = .pointer (some p)) ∨ (∃ f a c, v = .func (.func f) a c)) : OpRun P o st (locOf x) y [] := by
  refine .pure fun st' hl cx m S a w hs => ?_
  have hr := op_rep hx (fun _ h => h) hl hs
  refine ⟨a.eval x, ?_, hr⟩
  rcases hn m S w _ hr with ⟨p, hp⟩ | ⟨f, b, c, hp⟩ <;> simp [execOp, ho, hp]
theorem op_mkfn {fn : Fn} {first cap : Array Operand} (ho : o.op = .makeFunc fn first cap) : OpRun P o st (locsOf (first.toList ++ cap.toList)) (.clo fn (first.toList.map (opA st)) (cap.toList.map (opA st))) [] := by
  have mem : ∀ (xs : List Operand) (x : Operand), x ∈ xs → ∀ l ∈ locOf x, l ∈ locsOf xs := by
    intro xs
    induction xs with
    | nil => intro x hx; cases hx
    | cons y ys ih =>
      intro x hx l hl
      rcases List.mem_cons.1 hx with rfl | hx
      · simp [locsOf, hl]
      · simp [locsOf, ih x hx l hl]
  refine .pure fun st' hl cx m S a w hs => ⟨.func fn (first.map a.eval) (cap.map a.eval), by simp [execOp, ho, Instr.makeFunc], ?_⟩
  have key : ∀ (xs : Array Operand), (∀ x ∈ xs.toList, x ∈ first.toList ++ cap.toList) → Reps m S w (xs.toList.map (opA st)) (xs.map a.eval).toList := fun xs hxs => by
    rw [Array.toList_map]
    refine Reps.of (by simp) fun i x v hx hv => ?_
    rw [List.getElem?_map] at hx hv
    cases hi : xs.toList[i]? with
    | none => rw [hi] at hx; cases hx
    | some y =>
      rw [hi] at hx hv; cases hx; cases hv
      exact op_rep rfl (mem _ y (hxs y (List.mem_of_getElem? hi))) hl hs
  simp only [Rep]
  exact ⟨_, _, rfl, key first fun x hx => by simp [hx], key cap fun x hx => by simp [hx]⟩
end
end Go.Proofs.Ytdpmojhejidhiaa.K
