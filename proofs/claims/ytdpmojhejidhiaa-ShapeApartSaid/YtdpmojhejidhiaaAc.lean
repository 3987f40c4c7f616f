/- Code, function by function: what a call does to the blocks that it is handed (GCall), and the rules of the walk. -/
import Derived.Test.YtdpmojhejidhiaaAb
import Derived.Scope
namespace Go.Proofs.Ytdpmojhejidhiaa.K
open Go.RowKit
set_option linter.unusedVariables false
set_option linter.unusedSimpArgs false

/-! ### other names for the same blocks -/
mutual
def A.ren (ids : List Nat) : A → Option A
  | .top => some .top
  | .d x => some (.d x)
  | .agg xs => match A.rens ids xs with | some ys => some (.agg ys) | none => none
  | .tup xs => match A.rens ids xs with | some ys => some (.tup ys) | none => none
  | .loc id off => match ids[id]? with | some k => some (.loc k off) | none => none
  | .own id => match ids[id]? with | some k => some (.own k) | none => none
  | .sub id off n => match ids[id]? with | some k => some (.sub k off n) | none => none
  | .clo fn f c => match A.rens ids f, A.rens ids c with | some f', some c' => some (.clo fn f' c') | _, _ => none
  | .ab p => some (.ab p)
def A.rens (ids : List Nat) : List A → Option (List A)
  | [] => some []
  | x :: xs => match A.ren ids x, A.rens ids xs with | some y, some ys => some (y :: ys) | _, _ => none
end
def Blk.ren (ids : List Nat) : Blk → Option Blk
  | .box xs => match A.rens ids xs with | some ys => some (.box ys) | none => none
  | b => some b
def via (ids : List Nat) (m : Mp) : Mp := fun j => (ids[j]?).bind m
section
variable {ids : List Nat} {m : Mp} {S : Nat → Prop} {w : World}
mutual
theorem Rep.via : ∀ (x y : A) (v : Value), x.ren ids = some y → (Rep (via ids m) S w x v ↔ Rep m S w y v)
  | .top, y, v, h => by simp only [A.ren, Option.some.injEq] at h; subst h; simp only [Rep]
  | .d x, y, v, h => by simp only [A.ren, Option.some.injEq] at h; subst h; simp only [Rep]
  | .ab p, y, v, h => by simp only [A.ren, Option.some.injEq] at h; subst h; simp only [Rep]
  | .agg xs, y, v, h => by
    simp only [A.ren] at h
    cases hr : A.rens ids xs with
    | none => rw [hr] at h; cases h
    | some ys =>
      rw [hr] at h; simp only [Option.some.injEq] at h; subst h
      simp only [Rep]
      exact ⟨fun ⟨vs, h1, h2⟩ => ⟨vs, h1, (Reps.via xs ys _ hr).1 h2⟩, fun ⟨vs, h1, h2⟩ => ⟨vs, h1, (Reps.via xs ys _ hr).2 h2⟩⟩
  | .tup xs, y, v, h => by
    simp only [A.ren] at h
    cases hr : A.rens ids xs with
    | none => rw [hr] at h; cases h
    | some ys =>
      rw [hr] at h; simp only [Option.some.injEq] at h; subst h
      simp only [Rep]
      exact ⟨fun ⟨vs, h1, h2⟩ => ⟨vs, h1, (Reps.via xs ys _ hr).1 h2⟩, fun ⟨vs, h1, h2⟩ => ⟨vs, h1, (Reps.via xs ys _ hr).2 h2⟩⟩
  | .loc id off, y, v, h => by
    simp only [A.ren] at h
    cases hr : ids[id]? with
    | none => rw [hr] at h; cases h
    | some k => rw [hr] at h; simp only [Option.some.injEq] at h; subst h; simp only [Rep, K.via, hr, Option.bind_some]
  | .own id, y, v, h => by
    simp only [A.ren] at h
    cases hr : ids[id]? with
    | none => rw [hr] at h; cases h
    | some k => rw [hr] at h; simp only [Option.some.injEq] at h; subst h; simp only [Rep, K.via, hr, Option.bind_some]
  | .sub id off n, y, v, h => by
    simp only [A.ren] at h
    cases hr : ids[id]? with
    | none => rw [hr] at h; cases h
    | some k => rw [hr] at h; simp only [Option.some.injEq] at h; subst h; simp only [Rep, K.via, hr, Option.bind_some]
  | .clo fn f c, y, v, h => by
    simp only [A.ren] at h
    cases hf : A.rens ids f with
    | none => rw [hf] at h; simp at h
    | some f' =>
      cases hc : A.rens ids c with
      | none => rw [hf, hc] at h; simp at h
      | some c' =>
        rw [hf, hc] at h; simp only [Option.some.injEq] at h; subst h
        simp only [Rep]
        exact ⟨fun ⟨vs, cs, h1, h2, h3⟩ => ⟨vs, cs, h1, (Reps.via f f' _ hf).1 h2, (Reps.via c c' _ hc).1 h3⟩, fun ⟨vs, cs, h1, h2, h3⟩ => ⟨vs, cs, h1, (Reps.via f f' _ hf).2 h2, (Reps.via c c' _ hc).2 h3⟩⟩
theorem Reps.via : ∀ (xs ys : List A) (vs : List Value), A.rens ids xs = some ys → (Reps (via ids m) S w xs vs ↔ Reps m S w ys vs)
  | [], ys, vs, h => by simp only [A.rens, Option.some.injEq] at h; subst h; simp only [Reps]
  | x :: xs, ys, vs, h => by
    simp only [A.rens] at h
    cases hx : A.ren ids x with
    | none => rw [hx] at h; simp at h
    | some y =>
      cases hr : A.rens ids xs with
      | none => rw [hx, hr] at h; simp at h
      | some zs =>
        rw [hx, hr] at h; simp only [Option.some.injEq] at h; subst h
        simp only [Reps]
        exact ⟨fun ⟨v, r, h1, h2, h3⟩ => ⟨v, r, h1, (Rep.via x y v hx).1 h2, (Reps.via xs zs r hr).1 h3⟩, fun ⟨v, r, h1, h2, h3⟩ => ⟨v, r, h1, (Rep.via x y v hx).2 h2, (Reps.via xs zs r hr).2 h3⟩⟩
end
theorem BlkOK.via {j k : Nat} {b b' : Blk} (hk : ids[j]? = some k) (h : b.ren ids = some b') : BlkOK (via ids m) S w j b ↔ BlkOK m S w k b' := by
  have hj : K.via ids m j = m k := by simp [K.via, hk]
  cases b with
  | unborn => simp only [Blk.ren, Option.some.injEq] at h; subst h; simp only [BlkOK, hj]
  | gone => simp only [Blk.ren, Option.some.injEq] at h; subst h; simp only [BlkOK, hj]
  | arr e sz n xs => simp only [Blk.ren, Option.some.injEq] at h; subst h; simp only [BlkOK, hj]
  | fro e sz n xs => simp only [Blk.ren, Option.some.injEq] at h; subst h; simp only [BlkOK, hj]
  | box xs =>
    simp only [Blk.ren] at h
    cases hr : A.rens ids xs with
    | none => rw [hr] at h; cases h
    | some ys =>
      rw [hr] at h; simp only [Option.some.injEq] at h; subst h
      simp only [BlkOK, hj, Reps.via xs ys _ hr]
end

/-! ### code -/
section
variable (P : Program)
def AWP (K : Exit → St → Prop) (c : Code) (st : St) : Prop :=
  ∀ (cx : Cx) (m : Mp) (S : Nat → Prop) (a : Act) (w : World), Sim cx m S a w st → c.wp P (fun e a' w' => ∃ st' m' S', K e st' ∧ Sim cx m' S' a' w' st') a w
def Then (K : Exit → St → Prop) (b : Code) : Exit → St → Prop
  | .normal, st => AWP P K b st
  | e, st => K e st
end
def InBlock (id : Nat) (K : Exit → St → Prop) : Exit → St → Prop
  | .exit id', st => match Nat.beq id' id with | true => K .normal st | false => K (.exit id') st
  | e, st => K e st
/-- A constant's value. -/
def litA : Value → A
  | .slice none 0 0 => .d .nil
  | v => match v.oneCell' with | true => .d (.lit v) | false => .top
def ofV : Value → A
  | .agg cs => .agg (cs.toList.map litA)
  | v => litA v
theorem litA_rep {m : Mp} {S : Nat → Prop} {w : World} (v : Value) : Rep m S w (litA v) v := by
  unfold litA
  split
  · simp only [Rep]; unfold RepD; rfl
  · split
    · rename_i h; simp only [Rep]; unfold RepD; exact ⟨rfl, h⟩
    · simp only [Rep]
theorem litAs_rep {m : Mp} {S : Nat → Prop} {w : World} (vs : List Value) : Reps m S w (vs.map litA) vs :=
  Reps.of (by simp) fun i x v hx hv => by
    rw [List.getElem?_map, hv] at hx
    simp only [Option.map_some, Option.some.injEq] at hx
    subst hx; exact litA_rep v
theorem ofV_rep {m : Mp} {S : Nat → Prop} {w : World} (v : Value) : Rep m S w (ofV v) v := by
  unfold ofV
  split
  · simp only [Rep]; exact ⟨_, rfl, litAs_rep _⟩
  · exact litA_rep _
def opA (st : St) : Operand → A
  | .tmp t => st.env.getD t .top
  | .const v => ofV v
  | .global g => .d (.lit (.pointer (some ⟨g, 0, none⟩)))
  | .func f => .clo (.func f) [] []
theorem Sim.op {cx : Cx} {m : Mp} {S : Nat → Prop} {a : Act} {w : World} {st : St} (h : Sim cx m S a w st) (x : Operand) : Rep m S w (opA st x) (a.eval x) := by
  cases x with
  | tmp t => exact h.slot t
  | const v => exact ofV_rep v
  | global g => simp only [opA, Rep, RepD]; exact ⟨rfl, rfl⟩
  | func f => simp only [opA, Rep, Reps]; exact ⟨_, _, rfl, rfl, rfl⟩
section
variable {P : Program} {K : Exit → St → Prop} {st : St}
theorem AWP.mono {c : Code} {K' : Exit → St → Prop} (h : AWP P K c st) (hk : ∀ e st', K e st' → K' e st') : AWP P K' c st := fun cx m S a w hs =>
  wp_mono (h cx m S a w hs) fun e a' w' ⟨st', m', S', h1, h2⟩ => ⟨st', m', S', hk _ _ h1, h2⟩
theorem AWP.skip (h : K .normal st) : AWP P K .skip st := fun cx m S a w hs => wp_skip ⟨st, m, S, h, hs⟩
theorem AWP.ret (h : K .ret st) : AWP P K .ret st := fun cx m S a w hs => wp_ret ⟨st, m, S, h, hs⟩
theorem AWP.exit {id : Nat} (h : K (.exit id) st) : AWP P K (.exit id) st := fun cx m S a w hs => wp_exit ⟨st, m, S, h, hs⟩
theorem AWP.seq {b c : Code} (h : AWP P (Then P K c) b st) : AWP P K (.seq b c) st := fun cx m S a w hs =>
  wp_seq (wp_mono (h cx m S a w hs) fun e a' w' ⟨st', m', S', h1, h2⟩ => by
    cases e with
    | normal => exact h1 cx m' S' a' w' h2
    | exit id => exact ⟨st', m', S', h1, h2⟩
    | goto l => exact ⟨st', m', S', h1, h2⟩
    | ret => exact ⟨st', m', S', h1, h2⟩
    | panic ch => exact ⟨st', m', S', h1, h2⟩
    | outgrown => exact ⟨st', m', S', h1, h2⟩)
theorem AWP.cond {c : Operand} {x y : Code} {b : Bool} (hc : opA st c = .d (.lit (.bool b))) (ht : b = true → AWP P K x st) (hf : b = false → AWP P K y st) : AWP P K (.cond c x y) st := fun cx m S a w hs => by
  have := hs.op c
  rw [hc] at this
  simp only [Rep, RepD] at this
  exact wp_cond_split this.1 (fun h => ht h cx m S a w hs) (fun h => hf h cx m S a w hs)
theorem AWP.condU {c : Operand} {x y : Code} {p : Prop} (hc : opA st c = .ab p) (ht : p → AWP P K x st) (hf : AWP P K y st) : AWP P K (.cond c x y) st := fun cx m S a w hs => by
  have := hs.op c
  rw [hc] at this
  simp only [Rep] at this
  obtain ⟨b, h1, h2⟩ := this
  exact wp_cond_split h1 (fun h => ht (h2 h) cx m S a w hs) (fun h => hf cx m S a w hs)
theorem AWP.block {id : Nat} {c : Code} (h : AWP P (InBlock id K) c st) : AWP P K (.block id c) st := fun cx m S a w hs =>
  wp_block (wp_mono (h cx m S a w hs) fun e a' w' ⟨st', m', S', h1, h2⟩ => by
    cases e with
    | exit id' =>
      simp only [InBlock, Exit.inBlock] at h1 ⊢
      by_cases hid : id' = id
      · subst hid; simp only [Nat.beq_refl] at h1; simp only [if_true]; exact ⟨st', m', S', h1, h2⟩
      · have : Nat.beq id' id = false := by
          cases hb : Nat.beq id' id with
          | false => rfl
          | true => exact absurd (Nat.eq_of_beq_eq_true hb) hid
        rw [this] at h1
        simp only [hid, if_false]; exact ⟨st', m', S', h1, h2⟩
    | normal => exact ⟨st', m', S', h1, h2⟩
    | goto l => exact ⟨st', m', S', h1, h2⟩
    | ret => exact ⟨st', m', S', h1, h2⟩
    | panic ch => exact ⟨st', m', S', h1, h2⟩
    | outgrown => exact ⟨st', m', S', h1, h2⟩)
theorem AWP.drawn {id : Nat} {l : List Oper} (hm : P.follows .mixedOrders = true) (h : Walk P l.toArray (fun st' F => chkF l.toArray F = true ∧ K .normal st') l st []) : AWP P K (.region id l.toArray true) st := fun cx m S a w hs =>
  region_drawn l hm (fun st' => K .normal st') h hs fun st' m' S' a' w' h1 h2 => ⟨st', m', S', h1, h2⟩
theorem AWP.text {id : Nat} {l : List Oper} (h : Walk P l.toArray (fun st' _ => K .normal st') l st []) : AWP P K (.region id l.toArray false) st := fun cx m S a w hs =>
  region_text l (fun st' => K .normal st') h hs fun st' m' S' a' w' h1 h2 => ⟨st', m', S', h1, h2⟩
/-- Rounds of a loop, so many at most. -/
def Rounds (P : Program) (K : Exit → St → Prop) (c : Code) : Nat → St → Prop
  | 0, _ => False
  | n + 1, st => AWP P (fun e st' => match e with | .normal => Rounds P K c n st' | e => K e st') c st
theorem AWP.loop {c : Code} (n : Nat) (h : Rounds P K c n st) : AWP P K (.loop c) st := fun cx m S a w hs => by
  let I : Act → World → Prop := fun a w => ∃ n st m S, Rounds P K c n st ∧ Sim cx m S a w st
  have least : ∀ a w, I a w → ∃ n, (∃ st m S, Rounds P K c n st ∧ Sim cx m S a w st) ∧ ∀ k, k < n → ¬ ∃ st m S, Rounds P K c k st ∧ Sim cx m S a w st := by
    rintro a w ⟨n, h⟩
    induction n using Nat.strongRecOn with
    | ind n ih =>
      by_cases hk : ∃ k, k < n ∧ ∃ st m S, Rounds P K c k st ∧ Sim cx m S a w st
      · obtain ⟨k, hkn, hk⟩ := hk; exact ih k hkn hk
      · exact ⟨n, h, fun k hkn hk' => hk ⟨k, hkn, hk'⟩⟩
  refine wp_loop I (fun a w => open Classical in if h : I a w then Classical.choose (least a w h) else 0) ⟨n, st, m, S, h, hs⟩ fun a w hI => ?_
  have hsp := Classical.choose_spec (least a w hI)
  simp only [dif_pos hI]
  generalize Classical.choose (least a w hI) = n at hsp
  obtain ⟨⟨st, m, S, h1, h2⟩, h3⟩ := hsp
  cases n with
  | zero => exact h1.elim
  | succ n =>
    refine wp_mono (h1 cx m S a w h2) fun e a' w' ⟨st', m', S', k1, k2⟩ => ?_
    cases e with
    | normal =>
      have hI' : I a' w' := ⟨n, st', m', S', k1, k2⟩
      refine ⟨hI', ?_⟩
      simp only [dif_pos hI']
      have hsp' := Classical.choose_spec (least a' w' hI')
      generalize Classical.choose (least a' w' hI') = n' at hsp'
      have : ¬ n < n' := fun hlt => hsp'.2 n hlt ⟨st', m', S', k1, k2⟩
      omega
    | exit id => exact ⟨st', m', S', k1, k2⟩
    | goto l => exact ⟨st', m', S', k1, k2⟩
    | ret => exact ⟨st', m', S', k1, k2⟩
    | panic ch => exact ⟨st', m', S', k1, k2⟩
    | outgrown => exact ⟨st', m', S', k1, k2⟩
theorem Rounds.mono {c : Code} : ∀ {n n' : Nat} {st : St}, n ≤ n' → Rounds P K c n st → Rounds P K c n' st
  | 0, _, _, _, h => h.elim
  | n + 1, 0, _, hl, _ => by omega
  | n + 1, n' + 1, st, hl, h => AWP.mono h fun e st' hk => by
    cases e with
    | normal => exact Rounds.mono (by omega) hk
    | exit id => exact hk
    | goto l => exact hk
    | ret => exact hk
    | panic ch => exact hk
    | outgrown => exact hk
/-- One may forget what a state says, and name it otherwise. -/
def Weak (st st' : St) : Prop := ∀ (cx : Cx) (m : Mp) (S : Nat → Prop) (a : Act) (w : World), Sim cx m S a w st → ∃ m' S', Sim cx m' S' a w st'
theorem AWP.weak {c : Code} {st' : St} (hw : Weak st st') (h : AWP P K c st') : AWP P K c st := fun cx m S a w hs => by
  obtain ⟨m', S', h'⟩ := hw cx m S a w hs
  exact h cx m' S' a w h'
theorem Weak.trans {a b c : St} (h : Weak a b) (k : Weak b c) : Weak a c := fun cx m S x w hs => by
  obtain ⟨m', S', h'⟩ := h cx m S x w hs
  exact k cx m' S' x w h'
end

/-- A nil slice is one of no elements. -/
def D.nn : D → D
  | .nil => .sl 0 []
  | x => x
mutual
def A.nn : A → A
  | .d x => .d x.nn
  | .agg xs => .agg (A.nns xs)
  | .tup xs => .tup (A.nns xs)
  | .clo fn f c => .clo fn (A.nns f) (A.nns c)
  | .top => .top
  | .loc id off => .loc id off
  | .own id => .own id
  | .sub id off n => .sub id off n
  | .ab p => .ab p
def A.nns : List A → List A
  | [] => []
  | x :: xs => A.nn x :: A.nns xs
end
section
variable {m : Mp} {S : Nat → Prop} {w : World}
theorem RepD.nn {x : D} {v : Value} (h : RepD S w x v) : RepD S w x.nn v := by
  cases x with
  | nil => simp only [RepD] at h; subst h; simp only [D.nn]; unfold RepD; exact ⟨none, 0, rfl, Nat.le_refl _, Nat.zero_le _, fun _ => ⟨rfl, rfl⟩, by simp only [RepDs]⟩
  | lit v => exact h
  | sl n cs => exact h
  | ref cs => exact h
  | slc n cs => exact h
mutual
theorem Rep.nn : ∀ (x : A) (v : Value), Rep m S w x v → Rep m S w x.nn v
  | .d x, v, h => by simp only [Rep, A.nn] at h ⊢; exact h.nn
  | .agg xs, v, h => by
    simp only [Rep, A.nn] at h ⊢
    obtain ⟨vs, h1, h2⟩ := h
    exact ⟨vs, h1, Reps.nn xs _ h2⟩
  | .tup xs, v, h => by
    simp only [Rep, A.nn] at h ⊢
    obtain ⟨vs, h1, h2⟩ := h
    exact ⟨vs, h1, Reps.nn xs _ h2⟩
  | .clo fn f c, v, h => by
    simp only [Rep, A.nn] at h ⊢
    obtain ⟨vs, cs, h1, h2, h3⟩ := h
    exact ⟨vs, cs, h1, Reps.nn f _ h2, Reps.nn c _ h3⟩
  | .top, v, h => h
  | .loc id off, v, h => h
  | .own id, v, h => h
  | .sub id off n, v, h => h
  | .ab p, v, h => h
theorem Reps.nn : ∀ (xs : List A) (vs : List Value), Reps m S w xs vs → Reps m S w (A.nns xs) vs
  | [], vs, h => h
  | x :: xs, vs, h => by
    simp only [Reps, A.nns] at h ⊢
    obtain ⟨v, r, h1, h2, h3⟩ := h
    exact ⟨v, r, h1, Rep.nn x v h2, Reps.nn xs r h3⟩
end
end

/-! ### calls -/
def P0of (m : Mp) (S : Nat → Prop) : Nat → Prop := fun b => ∃ id p, m id = some p ∧ p.blk = some b ∧ ¬ S b
/-- A call of f with what reads as args, which may write the blocks 'pre', comes back with what reads as res; the blocks are then 'post' (behind those of 'pre', new ones); all else is as it was. -/
def GCall (P : Program) (f : FuncId) (args : List A) (pre : List Blk) (res : A) (post : List Blk) : Prop :=
  ∀ (m : Mp) (S : Nat → Prop) (w : World) (vs : List Value), Hold ⟨w, S, P0of m S, m⟩ m S w pre → Reps m S w args vs →
    Calls P f vs.toArray w fun e w' => ∃ v m' S', e = .returned v ∧ Hold ⟨w, S, P0of m S, m⟩ m' S' w' post ∧ Rep m' S' w' res v
/-- A variable's value, of its cells. -/
def loadA (P : Program) (t : TypeId) (xs : List A) (off : Nat) : Option A :=
  match P.underlying t with
  | some (.struct _) | some (.array _ _) => match P.info? t with
    | some i => match Nat.ble (off + i.size) xs.length with | true => some (.agg ((xs.drop off).take i.size)) | false => none
    | none => none
  | some _ => xs[off]?
  | none => none
def resOf (P : Program) (st : St) : ResultVar → Option A
  | .tmp t => some (st.env.getD t .top)
  | .cell a t => match st.env.getD a .top with
    | .loc id off => match st.H.getD id .unborn with
      | .box xs => loadA P t xs off
      | _ => none
    | _ => none
def resList (P : Program) (st : St) : List ResultVar → Option (List A)
  | [] => some []
  | r :: rs => match resOf P st r, resList P st rs with | some x, some xs => some (x :: xs) | _, _ => none
def one : List A → A
  | [x] => x
  | xs => .tup xs
theorem run_loadA {P : Program} {t : TypeId} {xs : List A} {off : Nat} {x : A} (h : loadA P t xs off = some x) {m : Mp} {S : Nat → Prop} {w : World} {b : Nat} {cells : Array Value} {T : TypeId} {fr : Nat × Nat}
    (hb : w.heap[b]? = some (.cells cells T fr)) (hr : Reps m S w xs cells.toList) : ∃ v, (loadVar t ⟨b, off, none⟩).run P w = .ok v w ∧ Rep m S w x v := by
  have hcell : ∀ i, w.cell? ⟨b, i, none⟩ = cells[i]? := fun i => by simp [World.cell?, hb]
  have hadd : ∀ j, (⟨b, off, none⟩ : Addr).add j = ⟨b, off + j, none⟩ := fun j => by unfold Addr.add; split <;> simp_all
  have scalar : xs[off]? = some x → ∃ v, w.cell? ⟨b, off, none⟩ = some v ∧ Rep m S w x v := fun hx => by
    obtain ⟨v, h1, h2⟩ := hr.at off x hx
    exact ⟨v, by rw [hcell, ← Array.getElem?_toList]; exact h1, h2⟩
  have aggr : ∀ (i : TypeInfo), P.info? t = some i → (match Nat.ble (off + i.size) xs.length with | true => some (A.agg ((xs.drop off).take i.size)) | false => none) = some x →
      ∃ v, (do pure (Value.agg (← loadCells ⟨b, off, none⟩ (← sizeOf t))) : Sem Value).run P w = .ok v w ∧ Rep m S w x v := fun i hi hx => by
    cases hble : Nat.ble (off + i.size) xs.length with
    | false => rw [hble] at hx; cases hx
    | true =>
      rw [hble] at hx
      simp only [Option.some.injEq] at hx
      subst hx
      have hle : off + i.size ≤ xs.length := by simpa [Nat.ble_eq] using hble
      have hlen := hr.length
      have hl : ((cells.toList.drop off).take i.size).length = i.size := by simp at hlen ⊢; omega
      have hld := run_loadCells_list (P := P) (w := w) ⟨b, off, none⟩ ((cells.toList.drop off).take i.size) (fun j v hj => by
        rw [hadd, hcell, ← Array.getElem?_toList]
        rw [List.getElem?_take] at hj
        split at hj
        · rwa [List.getElem?_drop] at hj
        · cases hj)
      rw [hl] at hld
      refine ⟨.agg ((cells.toList.drop off).take i.size).toArray, ?_, ?_⟩
      · simp [sizeOf, typeInfo, hi, hld]
      · simp only [Rep]
        refine ⟨_, rfl, Reps.of (by simp at hlen ⊢; omega) fun j y v hy hv => ?_⟩
        simp only [List.getElem?_take, List.getElem?_drop] at hy hv
        split at hy
        · rename_i hj
          rw [if_pos hj] at hv
          obtain ⟨v', h1, h2⟩ := hr.at _ y hy
          rw [h1] at hv; cases hv; exact h2
        · cases hy
  unfold loadA at h
  cases hu : P.underlying t with
  | none => rw [hu] at h; cases h
  | some d =>
    rw [hu] at h
    have key : ∀ (agg : Bool), (isAgg t).run P w = .ok agg w → (loadVar t ⟨b, off, none⟩).run P w = if agg then (do pure (Value.agg (← loadCells ⟨b, off, none⟩ (← sizeOf t))) : Sem Value).run P w else (load ⟨b, off, none⟩).run P w := fun agg h => by
      unfold loadVar
      simp only [Sem.run_bind, h, Result.andThen_ok]
      cases agg <;> simp
    cases d with
    | struct fs =>
      rw [key true (by simp [isAgg, underlying, hu])]
      simp only at h
      cases hi : P.info? t with
      | none => rw [hi] at h; cases h
      | some i => rw [hi] at h; exact aggr i hi h
    | array n e =>
      rw [key true (by simp [isAgg, underlying, hu])]
      simp only at h
      cases hi : P.info? t with
      | none => rw [hi] at h; cases h
      | some i => rw [hi] at h; exact aggr i hi h
    | _ =>
      rw [key false (by simp [isAgg, underlying, hu])]
      simp only at h
      obtain ⟨v, h1, h2⟩ := scalar h
      exact ⟨v, by simp [h1], h2⟩
end Go.Proofs.Ytdpmojhejidhiaa.K
