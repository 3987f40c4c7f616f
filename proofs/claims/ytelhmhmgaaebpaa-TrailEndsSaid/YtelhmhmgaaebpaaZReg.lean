/- A region whose order is drawn, whose operations leave old memory alone: one walk in the order of the text serves every order.
   Each slot that the region fills is known as a value, or by a predicate that stays true as the world grows. -/
import Derived.WalkKit
import Derived.Orders
import Derived.Below
import Derived.KernelRfl
import Derived.Deep.Draws
import Derived.Laws.AppendOwn
import Derived.Lib.AppendStr
import Derived.Scope
import Derived.Laws.AppendOwnNone
import Derived.Laws.CopyRow
import Derived.Laws.IdiomStrings
import Derived.Laws.OwnMore
set_option linter.unusedVariables false
set_option linter.unusedSimpArgs false
namespace Go.Proofs.Ytelhmhmgaaebpaa
open Go.RowKit

/-- The world w' holds all that w held. -/
abbrev Ext (w w' : World) : Prop := Below w.heap.size w w'
theorem Ext.refl (w : World) : Ext w w := Below.refl _ _
theorem Ext.trans {a b c : World} (h : Ext a b) (k : Ext b c) : Ext a c := Below.trans h (k.mono h.size)
theorem Ext.drew (w : World) : Ext w w.drew := (Below.refl _ _).drew
theorem Ext.alloc (w : World) (o : Obj) : Ext w (w.alloc o) := (Below.refl _ _).alloc (Nat.le_refl _) o

abbrev SP := Value → World → Prop
def Stable (F : SP) : Prop := ∀ v w w', F v w → Ext w w' → F v w'

/-- A call hands back a value that meets F, and old memory is as it was. -/
def GP (w : World) (F : SP) (e : Ending) (w' : World) : Prop := ∃ v, e = .returned v ∧ Ext w w' ∧ F v w'
def Gives (P : Program) (f : FuncId) (args : Array Value) (w : World) (F : SP) : Prop := Calls P f args w (GP w F)
theorem Gives.mono {P : Program} {f : FuncId} {args : Array Value} {w : World} {F G : SP} (h : Gives P f args w F) (k : ∀ v w', F v w' → G v w') : Gives P f args w G :=
  Calls.mono h fun _ _ ⟨v, he, hx, hf⟩ => ⟨v, he, hx, k _ _ hf⟩

/-- What is known of a slot. -/
inductive SV where
  | val (c : Value)
  | rep (F : SP) (h : Stable F)
def SV.sp : SV → SP
  | .val c => fun v _ => v = c
  | .rep F _ => F
theorem SV.stable (g : SV) : Stable g.sp := by
  cases g with
  | val c => exact fun _ _ _ h _ => h
  | rep F h => exact h

def lk : List Value → Nat → SV
  | [], _ => .val undef
  | v :: _, 0 => .val v
  | _ :: l, n + 1 => lk l n
def look (tm : List Value) : List (Nat × SV) → Nat → SV
  | [], s => lk tm s
  | (d, g) :: U, s => match Nat.beq d s with | true => g | false => look tm U s
def env (ρ : Nat → Value) : Operand → Value
  | .tmp t => ρ t
  | .const v => v
  | .global g => .pointer (some ⟨g, 0, none⟩)
  | .func f => .func (.func f) #[] #[]

/-- A call that comes back, with a value and a world that meet R. -/
def CallR (P : Program) (f : FuncId) (args : Array Value) (w : World) (R : Value → World → Prop) : Prop :=
  Calls P f args w (fun e w' => ∃ v, e = .returned v ∧ R v w')
def RunsUpon (P : Program) (R : Value → World → Prop) : Result Next → Prop
  | .ok (.value v) w' => R v w'
  | .ok .skip w' => R undef w'
  | .ok (.enter f args) w' => CallR P f args w' R
  | .ok (.row row args) w' => Rows P row args w' R
  | _ => False
theorem RunsUpon.wp {P : Program} {o : Oper} {a : Act} {w : World} {R : Value → World → Prop} (h : RunsUpon P R ((execOp a.eval o).run P w))
    {K : Act → World → Prop} {Q : Exit → Act → World → Prop} (k : ∀ v w', R v w' → K (a.put o.dst v) w') : o.wp P a w K Q := by
  unfold Oper.wp
  generalize (execOp a.eval o).run P w = r at *
  cases r with
  | ok n w' =>
    cases n <;> simp only [RunsUpon, Oper.upon] at h ⊢
    case value v => exact k _ _ h
    case skip => exact k _ _ h
    case enter f args => exact Calls.mono h fun e w'' ⟨v, he, hr⟩ => by subst he; exact k _ _ hr
    case row row args => exact h.mono fun v w' hr => k _ _ hr
  | halt x w' => cases x <;> simp only [RunsUpon] at h

/-- The guard, read off a frame that is a function. -/
def wantedρ (ops : Array Oper) (ρ : Nat → Value) (o : Oper) : Bool :=
  match o.guard with
  | none => true
  | some (j, want) => match (ops[j]?).bind (·.dst) with
    | some t => (match ρ t with | .bool b => some b | _ => none) == some want
    | none => false

def Act.fn (a : Act) : Nat → Value := fun s => a.tmps.getD s undef
theorem wanted_env (ops : Array Oper) (a : Act) (o : Oper) : Region.wanted o (yielded ops a.tmps) = wantedρ ops (Act.fn a) o := by
  unfold Region.wanted wantedρ
  cases hg : o.guard with
  | none => rfl
  | some gw =>
    obtain ⟨j, want⟩ := gw
    simp only [yielded]
    cases ht : (ops[j]?).bind (·.dst) with
    | none => simp
    | some t =>
      simp only [Option.bind_some, Act.fn]
      cases hv : a.tmps[t]? with
      | none => simp [hv, undef]
      | some v => simp [hv]; cases v <;> rfl

section
variable (P : Program) (ops : Array Oper) (w0 : World) (tm : List Value)

def fin (w' : World) : List SV → (List Value → Prop) → Prop
  | [], k => k []
  | .val c :: r, k => fin w' r (fun l => k (c :: l))
  | .rep F _ :: r, k => ∀ x, F x w' → fin w' r (fun l => k (x :: l))
end

/-! ### which operation stands behind which -/
def orAll : List Nat → Nat
  | [] => 0
  | x :: l => x ||| orAll l
theorem testBit_orAll {l : List Nat} {j : Nat} (h : (orAll l).testBit j = true) : ∃ x ∈ l, x.testBit j = true := by
  induction l with
  | nil => simp [orAll] at h
  | cons x l ih =>
    rw [orAll, Nat.testBit_or, Bool.or_eq_true] at h
    rcases h with h | h
    · exact ⟨x, by simp, h⟩
    · obtain ⟨y, hy, hb⟩ := ih h; exact ⟨y, by simp [hy], hb⟩
def preAt (pre : List Nat) (o : Oper) : Nat :=
  orAll ((o.after.toList.filter (Region.binds .any)).map fun e => 2 ^ e.on ||| pre.getD e.on 0)
def preGo : List Oper → List Nat → List Nat
  | [], acc => acc
  | o :: l, acc => preGo l (acc ++ [preAt acc o])
def preOf (ops : List Oper) : List Nat := preGo ops []

def dstIs (o : Oper) (s : Tmp) : Bool := match o.dst with | some d => Nat.beq d s | none => false
section
variable {P : Program} {ops : Array Oper} {w0 : World} {tm : List Value}
/-- What is known of slot s when the operations that are marked (below k) have run. -/
def cur (ops : Array Oper) (tm : List Value) (G : Nat → SV) (on : Nat → Bool) : Nat → Nat → SV
  | 0, s => lk tm s
  | k + 1, s => if on k && (match ops[k]? with | some o => dstIs o s | none => false) then G k else cur ops tm G on k s

variable {pre : Nat → Nat → Prop} {m : Nat} {df : List Deferred} {G : Nat → SV} {Us : Nat → List (Nat × SV)} {Q : Exit → Act → World → Prop}
theorem getD_tf {listed : Array Bool} {i : Nat} (h : listed.getD i true = false) : listed.getD i false = false := by
  simp only [Array.getD_eq_getD_getElem?] at *
  cases hl : listed[i]? with
  | none => simp
  | some b => simpa [hl] using h
theorem getD_set_self {listed : Array Bool} {i : Nat} (h : listed.getD i true = false) : (listed.setIfInBounds i true).getD i false = true := by
  have : i < listed.size := by
    rcases Nat.lt_or_ge i listed.size with h' | h'
    · exact h'
    · simp [Array.getElem?_eq_none h'] at h
  simp [this]

end

section
variable {P : Program} {Q : Exit → Act → World → Prop} {w : World} {tm : List Value} {df : List Deferred}
end

/-! ### the rules of the walk -/
def isTmp (s : Nat) : Operand → Bool
  | .tmp t => Nat.beq t s
  | _ => false
def reads (ss : List Nat) (o : Oper) : Bool := (o.op.operands.toList.all fun
  | .tmp t => ss.any (Nat.beq t)
  | _ => true) && ss.all fun s => o.op.operands.toList.any (isTmp s)
def mvOf : Op → Option Operand
  | .move x => some x
  | .assign x => some x
  | _ => none
section
variable {P : Program} {ops : Array Oper} {w0 : World} {tm : List Value} {Q : Exit → Act → World → Prop} {df : List Deferred} {rest l : List Oper} {U : List (Nat × SV)} {o : Oper} {d : Nat}
/-- The guard says yes, by what is known. -/
def gYes (ops : Array Oper) (tm : List Value) (U : List (Nat × SV)) (o : Oper) : Bool :=
  match o.guard with
  | none => true
  | some (j, want) => match (ops[j]?).bind (·.dst) with
    | some t => match look tm U t with | .val (.bool b) => b == want | _ => false
    | none => false
def gNo (ops : Array Oper) (tm : List Value) (U : List (Nat × SV)) (o : Oper) : Bool :=
  match o.guard with
  | none => false
  | some (j, want) => match (ops[j]?).bind (·.dst) with
    | some t => match look tm U t with | .val (.bool b) => b != want | .val _ => true | _ => false
    | none => false
/-- What is known of the slots that are read: values first, then those that are known by a predicate. -/
def Vals (tm : List Value) (U : List (Nat × SV)) : List (Nat × Value) → Prop
  | [] => True
  | (s, v) :: l => look tm U s = .val v ∧ Vals tm U l
def Reps (tm : List Value) (U : List (Nat × SV)) : List (Nat × SP) → Prop
  | [] => True
  | (s, F) :: l => (∃ h, look tm U s = .rep F h) ∧ Reps tm U l
def Fill (w : World) : List (Nat × SP) → List (Nat × Value) → (List (Nat × Value) → Prop) → Prop
  | [], ss, k => k ss
  | (s, F) :: l, ss, k => ∀ x, F x w → Fill w l ((s, x) :: ss) k
theorem fill_spec {w : World} {ρ : Nat → Value} : ∀ (rs : List (Nat × SP)) (ss : List (Nat × Value)) (k : List (Nat × Value) → Prop), (∀ p ∈ rs, p.2 (ρ p.1) w) → (∀ p ∈ ss, p.2 = ρ p.1) →
    Fill w rs ss k → ∃ ss', k ss' ∧ (∀ p ∈ ss', p.2 = ρ p.1) ∧ (∀ p ∈ ss, p.1 ∈ ss'.map (·.1)) ∧ ∀ p ∈ rs, p.1 ∈ ss'.map (·.1)
  | [], ss, k, _, hs, h => ⟨ss, h, hs, fun p hp => List.mem_map.2 ⟨p, hp, rfl⟩, fun p hp => by cases hp⟩
  | (s, F) :: l, ss, k, hr, hs, h => by
    obtain ⟨ss', h1, h2, h3, h4⟩ := fill_spec l ((s, ρ s) :: ss) k (fun p hp => hr p (by simp [hp])) (fun p hp => by
      rcases List.mem_cons.1 hp with rfl | hp
      · rfl
      · exact hs p hp) (h (ρ s) (hr (s, F) (by simp)))
    refine ⟨ss', h1, h2, fun p hp => h3 p (by simp [hp]), fun p hp => ?_⟩
    rcases List.mem_cons.1 hp with rfl | hp
    · exact h3 (s, ρ s) (by simp)
    · exact h4 p hp
def many : Option TypeDesc → Bool
  | some (.struct _) => true
  | some (.array _ _) => true
  | _ => false
def loadOf : Op → Option (TypeId × Nat)
  | .load t (.tmp s) => some (t, s)
  | _ => none
end
end Go.Proofs.Ytelhmhmgaaebpaa

namespace Go.Proofs.Ytelhmhmgaaebpaa.K
open Go.RowKit

def FzOK (fz : Nat × Nat) (n : Nat) : Prop := fz.1 = fz.2 ∨ n ≤ fz.1
def RowAt (w : World) (g : Nat) (cur : Array Value) (e : TypeId) : Prop := ∃ fz, w.heap[g]? = some (.cells cur e fz) ∧ FzOK fz cur.size
theorem RowAt.of {w : World} {g : Nat} {cur : Array Value} {e : TypeId} (h : w.heap[g]? = some (.cells cur e (0, 0))) : RowAt w g cur e := ⟨_, h, .inl rfl⟩
theorem RowAt.lt {w : World} {g : Nat} {cur : Array Value} {e : TypeId} (h : RowAt w g cur e) : g < w.heap.size := by
  obtain ⟨fz, h, _⟩ := h
  exact (Array.getElem?_eq_some_iff.1 h).1
theorem RowAt.cell {w : World} {g i : Nat} {cur : Array Value} {e : TypeId} (h : RowAt w g cur e) : w.cell? ⟨g, i, none⟩ = cur[i]? := by
  obtain ⟨fz, h, _⟩ := h
  simp [World.cell?, h]
theorem RowAt.heap {w w' : World} {g : Nat} {cur : Array Value} {e : TypeId} (h : RowAt w g cur e) (hk : w'.heap[g]? = w.heap[g]?) : RowAt w' g cur e := by
  obtain ⟨fz, h, h2⟩ := h
  exact ⟨fz, hk.trans h, h2⟩
theorem RowAt.put {w w' : World} {g : Nat} {cur new : Array Value} {e : TypeId} (h : RowAt w g cur e) (hs : new.size = cur.size) (hk : ∀ fz, w.heap[g]? = some (.cells cur e fz) → w'.heap[g]? = some (.cells new e fz)) : RowAt w' g new e := by
  obtain ⟨fz, h, h2⟩ := h
  exact ⟨fz, hk fz h, by rw [hs]; exact h2⟩
theorem RowAt.frozen {w : World} {g i : Nat} {cur : Array Value} {e : TypeId} (h : RowAt w g cur e) (hi : i < cur.size) : w.frozen? ⟨g, i, none⟩ = false := by
  obtain ⟨⟨lo, hi'⟩, h, h2⟩ := h
  simp only [World.frozen?, h, Bool.and_eq_false_iff, decide_eq_false_iff_not]
  rcases h2 with h2 | h2 <;> simp only at h2 <;> omega
/-- The slice value v, of n elements, owns the cells xs. -/
def OwnsR (w : World) (e : TypeId) (size : Nat) (v : Value) (n : Nat) (xs : List Value) : Prop :=
  xs.length = n * size ∧
  ((v = .slice none 0 0 ∧ n = 0) ∨
   ∃ g cap cur, v = .slice (some ⟨g, 0, none⟩) n cap ∧ 0 ≤ g ∧ RowAt w g cur e ∧ n ≤ cap ∧ cap ≤ maxLen ∧ cur.size = cap * size ∧ cur.toList.take (n * size) = xs)
theorem OwnsR.of {w : World} {e : TypeId} {size n : Nat} {v : Value} {xs : List Value} (h : w.ownsRow 0 e size v n xs) : OwnsR w e size v n xs := by
  refine ⟨h.1, ?_⟩
  rcases h.2 with hn | ⟨g, cap, cur, hv, hb, hg, rest⟩
  · exact .inl hn
  · exact .inr ⟨g, cap, cur, hv, hb, RowAt.of hg, rest⟩
theorem OwnsR.nil (w : World) (e : TypeId) (size : Nat) : OwnsR w e size (.slice none 0 0) 0 [] := ⟨by simp, .inl ⟨rfl, rfl⟩⟩
theorem OwnsR.lt {w : World} {e : TypeId} {size n : Nat} {v : Value} {xs : List Value} (h : OwnsR w e size v n xs) : ∀ k, v.ownBlock = some k → k < w.heap.size := by
  intro k hk
  rcases h.2 with ⟨rfl, _⟩ | ⟨g, cap, cur, rfl, hb, hg, _⟩
  · simp [Value.ownBlock] at hk
  · simp [Value.ownBlock] at hk
    subst hk
    exact hg.lt
theorem OwnsR.cells {w : World} {e : TypeId} {size n : Nat} {v : Value} {xs : List Value} (h : OwnsR w e size v n xs) {g : Nat} (hg : v.ownBlock = some g) : ∀ j u, xs[j]? = some u → w.cell? ((⟨g, 0, none⟩ : Addr).add j) = some u := by
  intro j u hu
  rcases h.2 with ⟨rfl, _⟩ | ⟨g', cap, cur, rfl, _, hgg, _, _, _, htake⟩
  · simp [Value.ownBlock] at hg
  · simp [Value.ownBlock] at hg
    subst hg
    have hadd : (⟨g', 0, none⟩ : Addr).add j = ⟨g', j, none⟩ := by unfold Addr.add; split <;> simp_all
    rw [hadd, hgg.cell]
    rw [← htake, List.getElem?_take] at hu
    split at hu
    · simpa using hu
    · cases hu
/-- Cells are stored into a row. -/
theorem run_storeCells_row (P : Program) (g o : Nat) (t : TypeId) : ∀ (vs : List Value) (i : Nat) (cur : Array Value) (w : World), RowAt w g cur t → o + i + vs.length ≤ cur.size → (∀ v ∈ vs, v.oneCell' = true) →
    (storeCells ⟨g, o, none⟩ vs i).run P w = .ok () (w.setRow g (cur.toList.take (o + i) ++ vs ++ cur.toList.drop (o + i + vs.length)).toArray)
  | [], i, cur, w, hg, _, _ => by
    obtain ⟨fz, hg, _⟩ := hg
    simp only [storeCells, List.append_nil, List.length_nil, Nat.add_zero, List.take_append_drop, Array.toArray_toList]
    rw [setRow_self w g cur t fz hg]
    rfl
  | v :: rest, i, cur, w, hr, hl, h1 => by
    have hi : o + i < cur.size := by simp at hl; omega
    have hfro := hr.frozen hi
    obtain ⟨fz, hg, hz⟩ := hr
    have hadd : (⟨g, o, none⟩ : Addr).add i = ⟨g, o + i, none⟩ := by unfold Addr.add; split <;> simp_all
    have hcell : w.cell? ⟨g, o + i, none⟩ = some cur[o + i] := by simp [World.cell?, hg, hi]
    have hst : (store ((⟨g, o, none⟩ : Addr).add i) v).run P w = .ok () (w.setRow g (cur.setIfInBounds (o + i) v)) := by
      rw [hadd, run_store P w _ v _ (h1 v (by simp)), hcell]
      simp [hfro, setCell_eq_setRow w g (o + i) cur t fz v hg]
    have ih := run_storeCells_row P g o t rest (i + 1) (cur.setIfInBounds (o + i) v) (w.setRow g (cur.setIfInBounds (o + i) v)) ⟨fz, setRow_heap w g cur _ t _ hg, by simpa using hz⟩ (by simp at hl ⊢; omega) (fun x hx => h1 x (by simp [hx]))
    simp only [storeCells, Sem.run_bind, hst, Result.andThen_ok, ih, setRow_setRow]
    congr 3
    have e := list_seg_step cur.toList (o + i) v rest (by simp at hl ⊢; omega)
    simpa [Array.toList_setIfInBounds, Nat.add_assoc] using e
section
variable {P : Program} (w : World)
theorem run_append_roomR (t ty e : TypeId) (i : TypeInfo) (ht : P.underlying t = some (.slice e)) (hi : P.info? e = some i)
    (g sLen sCap : Nat) (cur : Array Value) (hg : RowAt w g cur e)
    (a : Addr) (m c : Nat) (news : List Value) (hl : news.length = m * i.size) (hnews : ∀ j u, news[j]? = some u → w.cell? (a.add j) = some u) (h1 : ∀ u ∈ news, u.oneCell' = true)
    (hroom : sLen + m ≤ sCap) (hfit : sLen * i.size + news.length ≤ cur.size) :
    (Builtin.append_ #[t, t] ty #[.slice (some ⟨g, 0, none⟩) sLen sCap, .slice (some a) m c]).run P w =
      .ok (.slice (some ⟨g, 0, none⟩) (sLen + m) sCap) (w.setRow g (cur.toList.take (sLen * i.size) ++ news ++ cur.toList.drop (sLen * i.size + news.length)).toArray) := by
  have hf := run_firstCells_some (P := P) w i.size m a m c news hl hnews
  have hst := run_storeCells_row P g (sLen * i.size) e news 0 cur w hg (by simpa using hfit) h1
  simp only [Nat.add_zero] at hst
  simp [Builtin.append_, run_underlying ht, sizeOf, typeInfo, hi, Builtin.lenOf, hroom, hf, Addr.add_lit, hst]
theorem run_append_ownR (t ty e : TypeId) (i : TypeInfo) (z : Value) (size bytes : Nat) (ht : P.underlying t = some (.slice e)) (hi : P.info? e = some i) (hz : i.zero = some z)
    (hsize : i.size = size) (hby : i.bytes = bytes) (hzs : z.cells.size = size) (hsz : 0 < size)
    (v : Value) (n : Nat) (xs : List Value) (hown : OwnsR w e size v n xs)
    (a : Addr) (m c : Nat) (news : List Value) (hl : news.length = m * size) (hnews : ∀ j u, news[j]? = some u → w.cell? (a.add j) = some u) (h1 : ∀ u ∈ news, u.oneCell' = true)
    (h63 : n + m ≤ maxLen) (hbytes : (n + m) * bytes ≤ 140737488355328) :
    ∃ v' w', (Builtin.append_ #[t, t] ty #[v, .slice (some a) m c]).run P w = .ok v' w' ∧ OwnsR w' e size v' (n + m) (xs ++ news) ∧ w.grownBy w' v.ownBlock ∧
      (∀ g, v'.ownBlock = some g → v.ownBlock = some g ∨ w.heap.size ≤ g) := by
  rcases hown.2 with ⟨rfl, rfl⟩ | ⟨g, cap, cur, rfl, hbg, hg, hnc, hcm, hcs, htake⟩
  · obtain ⟨v', w', h1, h2, h3, h4⟩ := run_append_own (P := P) w w.heap.size t ty e i z size bytes ht hi hz hsize hby hzs hsz (.slice none 0 0) 0 xs ⟨hown.1, .inl ⟨rfl, rfl⟩⟩ a m c news hl hnews h1 h63 hbytes (Nat.le_refl _)
    refine ⟨v', w', h1, OwnsR.of ⟨h2.1, ?_⟩, h3, fun g hg => .inr (h2.lt g hg).1⟩
    rcases h2.2 with h | ⟨g, cap, cur, a1, a2, a3⟩
    · exact .inl h
    · exact .inr ⟨g, cap, cur, a1, Nat.zero_le _, a3⟩
  · subst hsize
    subst hby
    have hsmall : n + m ≤ 9223372036854775807 := by simp only [maxLen] at h63; omega
    have hlen : (xs ++ news).length = (n + m) * i.size := by rw [List.length_append, hown.1, hl, Nat.add_mul]
    by_cases hroom : n + m ≤ cap
    · have hfit : n * i.size + news.length ≤ cur.size := by rw [hl, hcs, ← Nat.add_mul]; exact Nat.mul_le_mul_right _ hroom
      have hr := run_append_roomR (P := P) w t ty e i ht hi g n cap cur hg a m c news hl hnews h1 hroom hfit
      refine ⟨_, _, hr, ⟨hlen, .inr ⟨g, cap, _, rfl, hbg, hg.put ?_ fun fz h => setRow_heap w g cur _ e _ h, hroom, hcm, ?_, ?_⟩⟩, ⟨rfl, rfl, rfl, by simp, fun k _ hk => setRow_other w g k _ (fun e => hk (by simp [Value.ownBlock, e]))⟩, fun g' h => .inl h⟩
      · simp only [List.size_toArray, List.length_append, List.length_take, List.length_drop, Array.length_toList]
        omega
      · simp only [List.size_toArray, List.length_append, List.length_take, List.length_drop, Array.length_toList]
        omega
      · have hxl : xs.length = n * i.size := hown.1
        simp only []
        rw [htake, ← hlen]
        exact List.take_left
    · have holds : ∀ j u, xs[j]? = some u → w.cell? ((⟨g, 0, none⟩ : Addr).add j) = some u := hown.cells (g := g) rfl
      have hr := run_append_grow (P := P) w t ty e i z ht hi hz ⟨g, 0, none⟩ n cap xs hown.1 holds a m c news hl hnews (by omega) (by omega) (growslice_fits (by omega) hbytes)
      have hge := grownCap_ge w (n + m) cap e
      have hcm2 : grownCap w (n + m) cap e ≤ maxLen := grownCap_le_maxLen w (n + m) cap e h63
      refine ⟨_, _, hr, ⟨hlen, .inr ⟨w.heap.size, _, _, rfl, Nat.zero_le _, RowAt.of (heap_alloc_new w.drew _), hge, hcm2, ?_, ?_⟩⟩, ⟨rfl, rfl, rfl, by simp, fun k hk _ => heap_alloc_old w.drew _ hk⟩, fun g' h => .inr ?_⟩
      · simp only [Array.size_append, List.size_toArray, size_zeroCells, hzs, hown.1, hl, ← Nat.add_mul]
        congr 1
        omega
      · simp only [Array.toList_append, List.append_assoc]
        rw [← List.append_assoc, ← hlen]
        exact List.take_left
      · simp only [Value.ownBlock, Option.some.injEq] at h
        omega
end
end Go.Proofs.Ytelhmhmgaaebpaa.K

namespace Go.Proofs.Ytelhmhmgaaebpaa.K
open Go.RowKit

/-- The stamps of a map's entries. -/
def StampsOK (es : List MapEntry) (ck : Nat) : Prop := (es.map (·.born)).Nodup ∧ ∀ e ∈ es, e.born < ck
/-- What a cell reads as: a plain value; a slice of so many elements, by its cells; a pointer to cells. -/
inductive D where
  | nil
  | lit (v : Value)
  | sl (n : Nat) (cs : List D)
  | ref (cs : List D)
  | slc (n : Nat) (cs : List D)
  | mp (nl : Bool) (ks : List Value) (cs : List D)
  deriving Inhabited
mutual
def RepD (S : Nat → Prop) (w : World) : D → Value → Prop
  | .nil, u => u = .slice none 0 0
  | .lit v, u => u = v ∧ v.oneCell' = true
  | .sl n cs, u => ∃ a cap, u = .slice a n cap ∧ n ≤ cap ∧ cap ≤ maxLen ∧ (a = none → n = 0 ∧ cap = 0) ∧ RepDs S w cs a 0
  | .ref cs, u => ∃ a, u = .pointer (some a) ∧ RepDs S w cs (some a) 0
  | .slc n cs, u => ∃ a, u = .slice a n n ∧ n ≤ maxLen ∧ (a = none → n = 0) ∧ RepDs S w cs a 0
  | .mp nl ks cs, u => (nl = true ∧ u = .map none ∧ ks = [] ∧ cs = []) ∨ (nl = false ∧ ∃ b es ck, u = .map (some b) ∧ S b ∧ w.heap[b]? = some (.map es ck) ∧ StampsOK es.toList ck ∧ es.toList.map (·.key) = ks ∧ RepVs S w cs (es.toList.map (·.val)))
def RepVs (S : Nat → Prop) (w : World) : List D → List Value → Prop
  | [], vs => vs = []
  | c :: cs, vs => ∃ v r, vs = v :: r ∧ RepD S w c v ∧ RepVs S w cs r
def RepDs (S : Nat → Prop) (w : World) : List D → Option Addr → Nat → Prop
  | [], _, _ => True
  | c :: cs, a, i => (∃ p u, a = some p ∧ w.cell? (p.add i) = some u ∧ S p.block ∧ u.oneCell' = true ∧ RepD S w c u) ∧ RepDs S w cs a (i + 1)
end
/-- The frozen blocks are as they were. -/
def Keeps (S : Nat → Prop) (w w' : World) : Prop := ∀ b, S b → w'.heap[b]? = w.heap[b]?
theorem Keeps.refl (S : Nat → Prop) (w : World) : Keeps S w w := fun _ _ => rfl
theorem Keeps.trans {S S' : Nat → Prop} {a b c : World} (h : Keeps S a b) (hS : ∀ k, S k → S' k) (k : Keeps S' b c) : Keeps S a c := fun x hx => (k x (hS x hx)).trans (h x hx)
theorem addr_add (b o j : Nat) : (⟨b, o, none⟩ : Addr).add j = ⟨b, o + j, none⟩ := by unfold Addr.add; split <;> simp_all
theorem add_block (p : Addr) (i : Nat) : (p.add i).block = p.block := by unfold Addr.add; split <;> rfl
section
variable {S S' : Nat → Prop} {w w' : World}
mutual
theorem RepD.mono (hS : ∀ b, S b → S' b) (hk : Keeps S w w') : ∀ (x : D) (u : Value), RepD S w x u → RepD S' w' x u
  | .nil, u, h => by simpa only [RepD] using h
  | .lit v, u, h => by simpa only [RepD] using h
  | .sl n cs, u, h => by
    simp only [RepD] at h ⊢
    obtain ⟨a, cap, h0, h2, h3, h4, h5⟩ := h
    exact ⟨a, cap, h0, h2, h3, h4, RepDs.mono hS hk cs a 0 h5⟩
  | .ref cs, u, h => by
    simp only [RepD] at h ⊢
    obtain ⟨a, h0, h5⟩ := h
    exact ⟨a, h0, RepDs.mono hS hk cs _ 0 h5⟩
  | .slc n cs, u, h => by
    simp only [RepD] at h ⊢
    obtain ⟨a, h0, h3, h4, h5⟩ := h
    exact ⟨a, h0, h3, h4, RepDs.mono hS hk cs a 0 h5⟩
  | .mp nl ks cs, u, h => by
    simp only [RepD] at h ⊢
    rcases h with h | ⟨hn, b, es, ck, h0, h1, h2, h3, h4, h5⟩
    · exact .inl h
    · exact .inr ⟨hn, b, es, ck, h0, hS _ h1, (hk b h1).trans h2, h3, h4, RepVs.mono hS hk cs _ h5⟩
theorem RepVs.mono (hS : ∀ b, S b → S' b) (hk : Keeps S w w') : ∀ (cs : List D) (vs : List Value), RepVs S w cs vs → RepVs S' w' cs vs
  | [], vs, h => by simpa only [RepVs] using h
  | c :: cs, vs, h => by
    simp only [RepVs] at h ⊢
    obtain ⟨v, r, h1, h2, h3⟩ := h
    exact ⟨v, r, h1, RepD.mono hS hk c v h2, RepVs.mono hS hk cs r h3⟩
theorem RepDs.mono (hS : ∀ b, S b → S' b) (hk : Keeps S w w') : ∀ (cs : List D) (a : Option Addr) (i : Nat), RepDs S w cs a i → RepDs S' w' cs a i
  | [], _, _, _ => by simp only [RepDs]
  | c :: cs, a, i, h => by
    simp only [RepDs] at h ⊢
    obtain ⟨⟨p, u, h1, h2, h3, h4, h5⟩, h6⟩ := h
    refine ⟨⟨p, u, h1, ?_, hS _ h3, h4, RepD.mono hS hk c u h5⟩, RepDs.mono hS hk cs a (i + 1) h6⟩
    rw [World.cell?_of_block (w := w) (by rw [add_block]; exact hk _ h3)]; exact h2
end
end
theorem RepDs.at {S : Nat → Prop} {w : World} : ∀ (cs : List D) (a : Option Addr) (i : Nat), RepDs S w cs a i → ∀ j c, cs[j]? = some c → ∃ p u, a = some p ∧ w.cell? (p.add (i + j)) = some u ∧ S p.block ∧ u.oneCell' = true ∧ RepD S w c u
  | [], _, _, _, j, c, hj => by simp at hj
  | x :: cs, a, i, h, j, c, hj => by
    simp only [RepDs] at h
    cases j with
    | zero => simp only [List.getElem?_cons_zero, Option.some.injEq] at hj; subst hj; exact h.1
    | succ j =>
      have := RepDs.at cs a (i + 1) h.2 j c (by simpa using hj)
      rwa [show i + 1 + j = i + (j + 1) by omega] at this
theorem RepDs.of {S : Nat → Prop} {w : World} : ∀ (cs : List D) (a : Option Addr) (i : Nat), (∀ j c, cs[j]? = some c → ∃ p u, a = some p ∧ w.cell? (p.add (i + j)) = some u ∧ S p.block ∧ u.oneCell' = true ∧ RepD S w c u) → RepDs S w cs a i
  | [], _, _, _ => by simp only [RepDs]
  | x :: cs, a, i, h => by
    simp only [RepDs]
    refine ⟨by simpa using h 0 x rfl, RepDs.of cs a (i + 1) fun j c hj => ?_⟩
    have := h (j + 1) c (by simpa using hj)
    rwa [show i + (j + 1) = i + 1 + j by omega] at this
/-- Data behind the first k cells. -/
theorem RepDs.drop {S : Nat → Prop} {w : World} {cs : List D} {p : Addr} (h : RepDs S w cs (some p) 0) (k : Nat) : RepDs S w (cs.drop k) (some (p.add k)) 0 := by
  refine RepDs.of _ _ _ fun j c hj => ?_
  rw [List.getElem?_drop] at hj
  obtain ⟨q, u, hq, h1, h2, h3, h4⟩ := RepDs.at cs _ 0 h (k + j) c hj
  cases hq
  refine ⟨_, u, rfl, ?_, by rw [add_block]; exact h2, h3, h4⟩
  have : (p.add k).add (0 + j) = p.add (0 + (k + j)) := by
    unfold Addr.add
    by_cases hk : k = 0 <;> by_cases hj0 : j = 0 <;> simp [hk, hj0] <;> omega
  rw [this]; exact h1
theorem RepDs.take {S : Nat → Prop} {w : World} {cs : List D} {a : Option Addr} {i : Nat} (h : RepDs S w cs a i) (k : Nat) : RepDs S w (cs.take k) a i := by
  refine RepDs.of _ _ _ fun j c hj => RepDs.at cs a i h j c ?_
  rw [List.getElem?_take] at hj
  split at hj
  · exact hj
  · cases hj

/-- What is known of a value: nothing; a frozen datum; a struct, a tuple, of such; a pointer into a block of our own, a slice of our own (all of it; a part of it), a function with what it has caught. -/
inductive A where
  | top
  | d (x : D)
  | agg (xs : List A)
  | tup (xs : List A)
  | loc (id off : Nat)
  | own (id : Nat)
  | sub (id off n : Nat)
  | clo (fn : Fn) (first cap : List A)
  | ab (p : Prop)
  deriving Inhabited
/-- Where an own block lies. -/
inductive Pl where
  | gone
  | box (b : Nat)
  | arr (v : Value)
  | mp (b : Nat)
def Pl.blk : Pl → Option Nat
  | .gone => none
  | .box b => some b
  | .arr v => v.ownBlock
  | .mp b => some b
abbrev Mp := Nat → Option Pl
/-- A later map: a block may be gone, others may be new. -/
def Le (m m' : Mp) : Prop := ∀ id p, m id = some p → m' id = some p ∨ m' id = some .gone
theorem Le.refl (m : Mp) : Le m m := fun _ _ h => .inl h
theorem Le.trans {a b c : Mp} (h : Le a b) (k : Le b c) : Le a c := fun id p hp => by
  rcases h id p hp with h | h
  · exact k id p h
  · rcases k id _ h with k | k <;> exact .inr k
mutual
def Rep (m : Mp) (S : Nat → Prop) (w : World) : A → Value → Prop
  | .top, _ => True
  | .d x, u => RepD S w x u
  | .agg xs, u => ∃ vs, u = .agg vs ∧ Reps m S w xs vs.toList
  | .tup xs, u => ∃ vs, u = .tuple vs ∧ Reps m S w xs vs.toList
  | .loc id off, u => match m id with
    | none => False
    | some .gone => u.oneCell' = true
    | some (.box b) => u = .pointer (some ⟨b, off, none⟩)
    | some (.arr v) => ∃ g, v.ownBlock = some g ∧ u = .pointer (some ⟨g, off, none⟩)
    | some (.mp _) => False
  | .own id, u => match m id with
    | none => False
    | some .gone => u.oneCell' = true
    | some (.box _) => False
    | some (.arr v) => u = v ∧ u.oneCell' = true
    | some (.mp b) => u = .map (some b)
  | .sub id off n, u => match m id with
    | none => False
    | some .gone => u.oneCell' = true
    | some (.box _) => False
    | some (.arr v) => ∃ g cap, v.ownBlock = some g ∧ u = .slice (some ⟨g, off, none⟩) n cap ∧ n ≤ cap ∧ cap ≤ maxLen
    | some (.mp _) => False
  | .clo fn f c, u => ∃ vs cs, u = .func fn vs cs ∧ Reps m S w f vs.toList ∧ Reps m S w c cs.toList
  | .ab p, u => ∃ b, u = .bool b ∧ (b = true → p)
def Reps (m : Mp) (S : Nat → Prop) (w : World) : List A → List Value → Prop
  | [], vs => vs = []
  | a :: as, vs => ∃ v r, vs = v :: r ∧ Rep m S w a v ∧ Reps m S w as r
end
section
variable {m m' : Mp} {S S' : Nat → Prop} {w w' : World}
mutual
theorem Rep.mono (hm : Le m m') (hS : ∀ b, S b → S' b) (hk : Keeps S w w') : ∀ (x : A) (u : Value), Rep m S w x u → Rep m' S' w' x u
  | .top, u, h => by simp only [Rep]
  | .d x, u, h => by simp only [Rep] at h ⊢; exact RepD.mono hS hk x u h
  | .agg xs, u, h => by
    simp only [Rep] at h ⊢
    obtain ⟨vs, h1, h2⟩ := h
    exact ⟨vs, h1, Reps.mono hm hS hk xs _ h2⟩
  | .tup xs, u, h => by
    simp only [Rep] at h ⊢
    obtain ⟨vs, h1, h2⟩ := h
    exact ⟨vs, h1, Reps.mono hm hS hk xs _ h2⟩
  | .loc id off, u, h => by
    simp only [Rep] at h ⊢
    cases hp : m id with
    | none => rw [hp] at h; exact h.elim
    | some p =>
      rw [hp] at h
      rcases hm id p hp with h' | h' <;> rw [h']
      · exact h
      · cases p with
        | gone => exact h
        | box b => simp only at h; subst h; rfl
        | arr v => obtain ⟨g, _, rfl⟩ := h; rfl
        | mp b => exact h.elim
  | .own id, u, h => by
    simp only [Rep] at h ⊢
    cases hp : m id with
    | none => rw [hp] at h; exact h.elim
    | some p =>
      rw [hp] at h
      rcases hm id p hp with h' | h' <;> rw [h']
      · exact h
      · cases p with
        | gone => exact h
        | box b => exact h.elim
        | arr v => exact h.2
        | mp b => simp only at h; subst h; rfl
  | .sub id off n, u, h => by
    simp only [Rep] at h ⊢
    cases hp : m id with
    | none => rw [hp] at h; exact h.elim
    | some p =>
      rw [hp] at h
      rcases hm id p hp with h' | h' <;> rw [h']
      · exact h
      · cases p with
        | gone => exact h
        | box b => exact h.elim
        | arr v => obtain ⟨g, cap, _, rfl, _⟩ := h; rfl
        | mp b => exact h.elim
  | .clo fn f c, u, h => by
    simp only [Rep] at h ⊢
    obtain ⟨vs, cs, h1, h2, h3⟩ := h
    exact ⟨vs, cs, h1, Reps.mono hm hS hk f _ h2, Reps.mono hm hS hk c _ h3⟩
  | .ab p, u, h => by simp only [Rep] at h ⊢; exact h
theorem Reps.mono (hm : Le m m') (hS : ∀ b, S b → S' b) (hk : Keeps S w w') : ∀ (xs : List A) (vs : List Value), Reps m S w xs vs → Reps m' S' w' xs vs
  | [], vs, h => by simpa only [Reps] using h
  | x :: xs, vs, h => by
    simp only [Reps] at h ⊢
    obtain ⟨v, r, h1, h2, h3⟩ := h
    exact ⟨v, r, h1, Rep.mono hm hS hk x v h2, Reps.mono hm hS hk xs r h3⟩
end
theorem Reps.length : ∀ {xs : List A} {vs : List Value}, Reps m S w xs vs → vs.length = xs.length
  | [], vs, h => by simp only [Reps] at h; simp [h]
  | x :: xs, vs, h => by
    simp only [Reps] at h
    obtain ⟨v, r, rfl, _, h3⟩ := h
    simp [Reps.length h3]
theorem Reps.at : ∀ {xs : List A} {vs : List Value}, Reps m S w xs vs → ∀ (i : Nat) (x : A), xs[i]? = some x → ∃ v, vs[i]? = some v ∧ Rep m S w x v
  | [], vs, h, i, x, hx => by simp at hx
  | y :: xs, vs, h, i, x, hx => by
    simp only [Reps] at h
    obtain ⟨v, r, rfl, h2, h3⟩ := h
    cases i with
    | zero => simp only [List.getElem?_cons_zero, Option.some.injEq] at hx; subst hx; exact ⟨v, rfl, h2⟩
    | succ i => simpa using Reps.at h3 i x (by simpa using hx)
theorem Reps.of : ∀ {xs : List A} {vs : List Value}, vs.length = xs.length → (∀ (i : Nat) (x : A) (v : Value), xs[i]? = some x → vs[i]? = some v → Rep m S w x v) → Reps m S w xs vs
  | [], vs, hl, h => by simp only [Reps]; exact List.eq_nil_of_length_eq_zero (by simpa using hl)
  | y :: xs, [], hl, h => by simp at hl
  | y :: xs, v :: r, hl, h => by
    simp only [Reps]
    exact ⟨v, r, rfl, h 0 y v rfl rfl, Reps.of (by simpa using hl) fun i x u hx hu => h (i + 1) x u (by simpa using hx) (by simpa using hu)⟩
theorem Reps.set {xs : List A} {vs : List Value} (h : Reps m S w xs vs) (i : Nat) {x : A} {v : Value} (hx : Rep m S w x v) : Reps m S w (xs.set i x) (vs.set i v) := by
  have hl := h.length
  refine Reps.of (by simp [hl]) fun j y u hy hu => ?_
  rw [List.getElem?_set] at hy hu
  by_cases hij : i = j
  · subst hij
    simp only [if_true] at hy hu
    split at hy
    · simp only [Option.some.injEq] at hy
      subst hy
      split at hu
      · simp only [Option.some.injEq] at hu; subst hu; exact hx
      · cases hu
    · cases hy
  · simp only [hij, if_false] at hy hu
    obtain ⟨v', h1, h2⟩ := h.at j y hy
    rw [h1] at hu; cases hu; exact h2
theorem Reps.append : ∀ {xs ys : List A} {vs us : List Value}, Reps m S w xs vs → Reps m S w ys us → Reps m S w (xs ++ ys) (vs ++ us)
  | [], ys, vs, us, h, k => by simp only [Reps] at h; subst h; simpa using k
  | x :: xs, ys, vs, us, h, k => by
    simp only [Reps] at h
    obtain ⟨v, r, rfl, h2, h3⟩ := h
    simp only [List.cons_append, Reps]
    exact ⟨v, r ++ us, rfl, h2, Reps.append h3 k⟩
end
/-- Frozen data as values. -/
abbrev RepsD (S : Nat → Prop) (w : World) (xs : List D) (vs : List Value) : Prop := vs.length = xs.length ∧ ∀ (i : Nat) (x : D) (v : Value), xs[i]? = some x → vs[i]? = some v → RepD S w x v
theorem RepsD.mono {S S' : Nat → Prop} {w w' : World} {xs : List D} {vs : List Value} (hS : ∀ b, S b → S' b) (hk : Keeps S w w') (h : RepsD S w xs vs) : RepsD S' w' xs vs :=
  ⟨h.1, fun i x v hx hv => RepD.mono hS hk x v (h.2 i x v hx hv)⟩

/-- An own block: not made yet; gone; a variable's cells; a slice's row (its element's type and cells, its length), that may be written, or no more. -/
inductive Blk where
  | unborn
  | gone
  | box (xs : List A)
  | arr (e sz n : Nat) (xs : List D)
  | fro (e sz n : Nat) (xs : List D)
  | rows (e sz n : Nat) (xs : List D) (k : Nat) (a : A)
  | mp (ks : List Value) (cs : List D)
  deriving Inhabited
def ones (vs : List Value) : Prop := ∀ v ∈ vs, v.oneCell' = true
def RowOK (S : Nat → Prop) (w : World) (e sz n : Nat) (xs : List D) (v : Value) : Prop := ∃ cells, OwnsR w e sz v n cells ∧ RepsD S w xs cells ∧ ones cells
def BlkOK (m : Mp) (S : Nat → Prop) (w : World) (id : Nat) : Blk → Prop
  | .unborn => m id = none
  | .gone => m id = some .gone
  | .box xs => ∃ b cells T, m id = some (.box b) ∧ w.heap[b]? = some (.cells cells T (0, 0)) ∧ Reps m S w xs cells.toList ∧ ones cells.toList ∧ ¬ S b
  | .arr e sz n xs => ∃ v, m id = some (.arr v) ∧ RowOK S w e sz n xs v ∧ ∀ g, v.ownBlock = some g → ¬ S g
  | .fro e sz n xs => ∃ v, m id = some (.arr v) ∧ RowOK S w e sz n xs v ∧ ∀ g, v.ownBlock = some g → S g
  | .rows e sz n xs k a => ∃ v, m id = some (.arr v) ∧ (∃ cells, OwnsR w e sz v n cells ∧ Reps m S w ((xs.map .d).set k a) cells ∧ ones cells) ∧ ∀ g, v.ownBlock = some g → ¬ S g
  | .mp ks cs => ∃ b es ck, m id = some (.mp b) ∧ w.heap[b]? = some (.map es ck) ∧ StampsOK es.toList ck ∧ es.toList.map (·.key) = ks ∧ RepVs S w cs (es.toList.map (·.val)) ∧ ¬ S b

/-- What the program's own variables hold, of those that are only read. -/
def gcs : Nat → Option (List D) := fun _ => none
def GW (S : Nat → Prop) (w : World) : Prop := ∀ g cs, gcs g = some cs → RepDs S w cs (some ⟨g, 0, none⟩) 0
theorem GW.mono {S S' : Nat → Prop} {w w' : World} (h : GW S w) (hS : ∀ b, S b → S' b) (hk : Keeps S w w') : GW S' w' := fun g cs e => RepDs.mono hS hk cs _ 0 (h g cs e)
/-- Where a call began: what was frozen, what it was handed to write. -/
structure Cx where
  w0 : World
  S0 : Nat → Prop
  P0 : Nat → Prop
  m0 : Mp
  gw : GW S0 w0
  ap : ∀ b, S0 b → ¬ P0 b ∧ b < w0.heap.size
structure Hold (cx : Cx) (m : Mp) (S : Nat → Prop) (w : World) (H : List Blk) : Prop where
  os : w.os = cx.w0.os
  tape : w.tape = cx.w0.tape
  output : w.output = cx.w0.output
  size : cx.w0.heap.size ≤ w.heap.size
  old : ∀ b, b < cx.w0.heap.size → ¬ cx.P0 b → w.heap[b]? = cx.w0.heap[b]?
  s0 : ∀ b, cx.S0 b → S b
  s : ∀ b, S b → (cx.S0 b ∨ cx.P0 b ∨ cx.w0.heap.size ≤ b) ∧ b < w.heap.size
  pl : ∀ id p b, m id = some p → p.blk = some b → (cx.P0 b ∨ cx.S0 b ∨ cx.w0.heap.size ≤ b) ∧ b < w.heap.size
  apart : ∀ id id' p p' b, id ≠ id' → m id = some p → m id' = some p' → p.blk = some b → p'.blk ≠ some b
  ok : ∀ id, BlkOK m S w id (H.getD id .unborn)
  le : Le cx.m0 m
theorem Hold.gw {cx : Cx} {m : Mp} {S : Nat → Prop} {w : World} {H : List Blk} (h : Hold cx m S w H) : GW S w := cx.gw.mono h.s0 fun b hb => h.old b (cx.ap b hb).2 (cx.ap b hb).1
structure St where
  env : List A
  H : List Blk
  k : Nat
structure Sim (cx : Cx) (m : Mp) (S : Nat → Prop) (a : Act) (w : World) (st : St) : Prop where
  hold : Hold cx m S w st.H
  env : Reps m S w st.env a.tmps.toList
  df : a.defers = []
  pre : ∀ id, st.k ≤ id → cx.m0 id = none
theorem Hold.congr {cx : Cx} {m : Mp} {S : Nat → Prop} {w : World} {H H' : List Blk} (h : Hold cx m S w H) (he : ∀ id, H'.getD id .unborn = H.getD id .unborn) : Hold cx m S w H' :=
  ⟨h.os, h.tape, h.output, h.size, h.old, h.s0, h.s, h.pl, h.apart, fun id => by rw [he]; exact h.ok id, h.le⟩
theorem Hold.drew {cx : Cx} {m : Mp} {S : Nat → Prop} {w : World} {H : List Blk} (h : Hold cx m S w H) : Hold cx m S w.drew H := by
  have hk : Keeps S w w.drew := fun _ _ => rfl
  refine ⟨h.os, h.tape, h.output, h.size, h.old, h.s0, h.s, h.pl, h.apart, fun id => ?_, h.le⟩
  have := h.ok id
  cases hb : H.getD id .unborn with
  | unborn => rw [hb] at this; exact this
  | gone => rw [hb] at this; exact this
  | box xs =>
    rw [hb] at this
    obtain ⟨b, cells, T, h1, h2, h3, h4, h5⟩ := this
    exact ⟨b, cells, T, h1, h2, Reps.mono (Le.refl m) (fun _ h => h) hk _ _ h3, h4, h5⟩
  | arr e sz n xs =>
    rw [hb] at this
    obtain ⟨v, h1, ⟨cells, h2, h3, h4⟩, h5⟩ := this
    exact ⟨v, h1, ⟨cells, h2, h3.mono (fun _ h => h) hk, h4⟩, h5⟩
  | fro e sz n xs =>
    rw [hb] at this
    obtain ⟨v, h1, ⟨cells, h2, h3, h4⟩, h5⟩ := this
    exact ⟨v, h1, ⟨cells, h2, h3.mono (fun _ h => h) hk, h4⟩, h5⟩
  | rows e sz n xs kq aq =>
    rw [hb] at this
    obtain ⟨v, h1, ⟨cells, h2, h3, h4⟩, h5⟩ := this
    exact ⟨v, h1, ⟨cells, h2, Reps.mono (Le.refl m) (fun _ h => h) hk _ _ h3, h4⟩, h5⟩
  | mp ks cs =>
    rw [hb] at this
    obtain ⟨b, es, ck, h1, h2, h3, h4, h5, h6⟩ := this
    exact ⟨b, es, ck, h1, h2, h3, h4, RepVs.mono (fun _ h => h) hk _ _ h5, h6⟩
end Go.Proofs.Ytelhmhmgaaebpaa.K

namespace Go.Proofs.Ytelhmhmgaaebpaa.K
open Go.RowKit

inductive Loc where
  | tmp (t : Nat)
  | blk (id : Nat)
  deriving DecidableEq
inductive Ct where
  | a (x : A)
  | b (x : Blk)
def St.at (st : St) : Loc → Ct
  | .tmp t => .a (st.env.getD t .top)
  | .blk id => .b (st.H.getD id .unborn)
def setAt : List Blk → Nat → Blk → List Blk
  | [], 0, b => [b]
  | [], n + 1, b => .unborn :: setAt [] n b
  | _ :: l, 0, b => b :: l
  | x :: l, n + 1, b => x :: setAt l n b
theorem getD_setAt : ∀ (H : List Blk) (i j : Nat) (b : Blk), (setAt H i b).getD j .unborn = if j = i then b else H.getD j .unborn
  | [], 0, 0, b => rfl
  | [], 0, j + 1, b => rfl
  | [], i + 1, 0, b => rfl
  | [], i + 1, j + 1, b => by
    have := getD_setAt [] i j b
    simp only [setAt, List.getD_cons_succ, Nat.add_right_cancel_iff]
    simpa using this
  | x :: l, 0, 0, b => rfl
  | x :: l, 0, j + 1, b => rfl
  | x :: l, i + 1, 0, b => rfl
  | x :: l, i + 1, j + 1, b => by
    have := getD_setAt l i j b
    simp only [setAt, List.getD_cons_succ, Nat.add_right_cancel_iff]
    exact this
def putB : List Blk → List (Nat × Blk) → List Blk
  | H, [] => H
  | H, p :: bl => putB (setAt H p.1 p.2) bl
def lastB : List (Nat × Blk) → Nat → Option Blk
  | [], _ => none
  | p :: bl, j => match lastB bl j with | some b => some b | none => if j = p.1 then some p.2 else none
theorem getD_putB : ∀ (bl : List (Nat × Blk)) (H : List Blk) (j : Nat), (putB H bl).getD j .unborn = (lastB bl j).getD (H.getD j .unborn)
  | [], H, j => rfl
  | p :: bl, H, j => by
    rw [putB, getD_putB bl, lastB, getD_setAt]
    cases lastB bl j with
    | some b => rfl
    | none => by_cases h : j = p.1 <;> simp [h]
def St.put (st : St) (dst : Option Nat) (val : A) (bl : List (Nat × Blk)) : St := ⟨match dst with | some d => st.env.set d val | none => st.env, putB st.H bl, st.k⟩
@[simp] theorem St.put_k (st : St) (dst : Option Nat) (val : A) (bl : List (Nat × Blk)) : (st.put dst val bl).k = st.k := rfl
@[simp] theorem St.put_length (st : St) (dst : Option Nat) (val : A) (bl : List (Nat × Blk)) : (st.put dst val bl).env.length = st.env.length := by
  unfold St.put; cases dst <;> simp

/-- What one operation has done: its slot, that slot's value, the blocks that it wrote; what it looked at. -/
structure Ef where
  dst : Option Nat
  val : A
  bl : List (Nat × Blk)
  R : List Loc
def Ef.W (e : Ef) : List Loc := (match e.dst with | some d => [.tmp d] | none => []) ++ e.bl.map fun p => .blk p.1
def Ef.wr (e : Ef) (len : Nat) : Loc → Option Ct
  | .tmp t => if e.dst = some t ∧ t < len then some (.a e.val) else none
  | .blk id => (lastB e.bl id).map .b
def St.ap (st : St) (e : Ef) : St := st.put e.dst e.val e.bl
theorem lastB_mem : ∀ {bl : List (Nat × Blk)} {j : Nat}, (lastB bl j).isSome = true → j ∈ bl.map (·.1)
  | [], j, h => by simp [lastB] at h
  | p :: bl, j, h => by
    rw [lastB] at h
    cases hl : lastB bl j with
    | some b => have := lastB_mem (bl := bl) (j := j) (by simp [hl]); simp only [List.map_cons, List.mem_cons]; exact .inr this
    | none =>
      rw [hl] at h
      by_cases hj : j = p.1
      · simp [hj]
      · simp [hj] at h
theorem Ef.wr_W {e : Ef} {len : Nat} {l : Loc} (h : (e.wr len l).isSome = true) : l ∈ e.W := by
  cases l with
  | tmp t =>
    simp only [Ef.wr] at h
    split at h
    · rename_i hc; simp [Ef.W, hc.1]
    · cases h
  | blk id =>
    simp only [Ef.wr, Option.isSome_map] at h
    have := lastB_mem h
    simp only [Ef.W, List.mem_append, List.mem_map]
    right
    obtain ⟨p, hp, rfl⟩ := List.mem_map.1 this
    exact ⟨p, hp, rfl⟩
theorem at_ap (st : St) (e : Ef) (l : Loc) : (st.ap e).at l = (e.wr st.env.length l).getD (st.at l) := by
  cases l with
  | tmp t =>
    simp only [St.at, St.ap, St.put, Ef.wr]
    cases hd : e.dst with
    | none => simp
    | some d =>
      by_cases h : d = t
      · subst h
        by_cases hl : d < st.env.length
        · simp [hl]
        · simp [hl, List.getD_eq_getElem?_getD]
      · simp [h, List.getD_eq_getElem?_getD, List.getElem?_set]
  | blk id =>
    simp only [St.at, St.ap, St.put, Ef.wr, getD_putB]
    cases lastB e.bl id <;> rfl
@[simp] theorem St.ap_length (st : St) (e : Ef) : (st.ap e).env.length = st.env.length := by simp [St.ap]

/-- The operations that are marked, one behind the other. -/
def sig (st : St) (Es : List Ef) (X : Nat → Bool) : Nat → St
  | 0 => st
  | k + 1 => match X k, Es[k]? with | true, some e => (sig st Es X k).ap e | _, _ => sig st Es X k
theorem sig_length (st : St) (Es : List Ef) (X : Nat → Bool) : ∀ k, (sig st Es X k).env.length = st.env.length
  | 0 => rfl
  | k + 1 => by rw [sig]; split <;> simp [sig_length st Es X k]
theorem sig_k (st : St) (Es : List Ef) (X : Nat → Bool) : ∀ k, (sig st Es X k).k = st.k
  | 0 => rfl
  | k + 1 => by rw [sig]; split <;> simp [St.ap, sig_k st Es X k]
theorem sig_at (st : St) (Es : List Ef) (X : Nat → Bool) (k : Nat) (l : Loc) : (sig st Es X (k + 1)).at l =
    match X k, Es[k]? with | true, some e => (e.wr st.env.length l).getD ((sig st Es X k).at l) | _, _ => (sig st Es X k).at l := by
  rw [sig]
  cases X k <;> cases Es[k]? <;> simp [at_ap, sig_length]
theorem sig_read {st : St} {Es : List Ef} {X : Nat → Bool} {l : Loc} {i : Nat}
    (h : ∀ (j : Nat) (e : Ef), Es[j]? = some e → (e.wr st.env.length l).isSome = true → (j < i → X j = true) ∧ (i ≤ j → X j = false)) :
    ∀ k, (sig st Es X k).at l = (sig st Es (fun _ => true) (min k i)).at l
  | 0 => by rw [Nat.zero_min]; rfl
  | k + 1 => by
    have ih := sig_read h k
    by_cases hk : k < i
    · rw [show min (k + 1) i = k + 1 by omega, sig_at, sig_at]
      rw [show min k i = k by omega] at ih
      cases he : Es[k]? with
      | none => cases X k <;> exact ih
      | some e =>
        cases hw : e.wr st.env.length l with
        | none => cases X k <;> simpa [hw] using ih
        | some c =>
          have := (h k e he (by simp [hw])).1 hk
          simp [this, hw]
    · rw [show min (k + 1) i = min k i by omega, sig_at, ← ih]
      cases he : Es[k]? with
      | none => cases X k <;> rfl
      | some e =>
        cases hw : e.wr st.env.length l with
        | none => cases X k <;> simp [hw]
        | some c =>
          have := (h k e he (by simp [hw])).2 (by omega)
          simp [this]
theorem sig_below {st : St} {Es : List Ef} {X Y : Nat → Bool} {i : Nat} (h : ∀ j, j < i → X j = Y j) : ∀ k, k ≤ i → sig st Es X k = sig st Es Y k
  | 0, _ => rfl
  | k + 1, hk => by rw [sig, sig, sig_below h k (by omega), h k (by omega)]
theorem sig_more {st : St} {Es : List Ef} {X Y : Nat → Bool} {i : Nat} {ei : Ef} {l : Loc} (hi : Es[i]? = some ei) (hX : X i = false) (hY : Y i = true) (hne : ∀ j, j ≠ i → Y j = X j)
    (h : ∀ (j : Nat) (e : Ef), Es[j]? = some e → i < j → (ei.wr st.env.length l).isSome = true → (e.wr st.env.length l).isSome = true → X j = false) :
    ∀ k, i < k → (sig st Es Y k).at l = (ei.wr st.env.length l).getD ((sig st Es X k).at l)
  | 0, hk => by omega
  | k + 1, hk => by
    by_cases hki : k = i
    · subst hki
      rw [sig_at, sig_at, hX, hY, hi, sig_below (Y := X) (i := k) (fun j hj => hne j (by omega)) k (Nat.le_refl _)]
    · have ih := sig_more hi hX hY hne h k (by omega)
      rw [sig_at, sig_at, hne k hki, ih]
      cases hx : X k with
      | false => rfl
      | true =>
        cases he : Es[k]? with
        | none => rfl
        | some e =>
          cases hw : e.wr st.env.length l with
          | none => simp [hw]
          | some c =>
            cases hwi : ei.wr st.env.length l with
            | none => simp [hw]
            | some c' =>
              have := h k e he (by omega) (by simp [hwi]) (by simp [hw])
              rw [hx] at this; cases this

section
variable (P : Program)
/-- One operation: wherever what it looks at is as here, it comes back, with that value and those blocks written. -/
def OpRun (o : Oper) (st : St) (R : List Loc) (val : A) (bl : List (Nat × Blk)) : Prop :=
  ∀ st' : St, (∀ l ∈ R, st'.at l = st.at l) → st'.env.length = st.env.length → ∀ (cx : Cx) (m : Mp) (S : Nat → Prop) (a : Act) (w : World), Sim cx m S a w st' →
    RunsUpon P (fun v w' => ∃ m' S', Le m m' ∧ (∀ b, S b → S' b) ∧ Keeps S w w' ∧ Hold cx m' S' w' (putB st'.H bl) ∧ Rep m' S' w' val v) ((execOp a.eval o).run P w)
def gSlot (ops : Array Oper) (o : Oper) : Option Nat := match o.guard with | none => none | some (j, _) => (ops[j]?).bind (·.dst)
def gLoc (ops : Array Oper) (o : Oper) : List Loc := match gSlot ops o with | some t => [.tmp t] | none => []
def gYes (ops : Array Oper) (st : St) (o : Oper) : Bool :=
  match o.guard with
  | none => true
  | some (_, want) => match gSlot ops o with
    | some t => (match st.env.getD t .top with | .d (.lit (.bool b)) => b == want | _ => false)
    | none => false
def gNo (ops : Array Oper) (st : St) (o : Oper) : Bool :=
  match o.guard with
  | none => false
  | some (_, want) => match gSlot ops o with
    | some t => (match st.env.getD t .top with | .d (.lit (.bool b)) => b != want | .tup [] => true | _ => false)
    | none => false
def Walk (ops : Array Oper) (K : St → List Ef → Prop) : List Oper → St → List Ef → Prop
  | [], st, F => K st F
  | o :: l, st, F =>
    (gNo ops st o = true ∧ Walk ops K l (st.put o.dst (.tup []) []) (F ++ [⟨o.dst, .tup [], [], gLoc ops o⟩])) ∨
    (gYes ops st o = true ∧ ∃ R val bl, OpRun P o st R val bl ∧ Walk ops K l (st.put o.dst val bl) (F ++ [⟨o.dst, val, bl, gLoc ops o ++ R⟩]))
end
theorem Sim.put {cx : Cx} {m m' : Mp} {S S' : Nat → Prop} {a : Act} {w w' : World} {st : St} (h : Sim cx m S a w st) {dst : Option Nat} {val : A} {bl : List (Nat × Blk)} {v : Value}
    (hm : Le m m') (hS : ∀ b, S b → S' b) (hk : Keeps S w w') (hh : Hold cx m' S' w' (putB st.H bl)) (hv : Rep m' S' w' val v) : Sim cx m' S' (a.put dst v) w' (st.put dst val bl) := by
  refine ⟨hh, ?_, ?_, h.pre⟩
  · have h1 := Reps.mono hm hS hk _ _ h.env
    cases dst with
    | none => exact h1
    | some d =>
      simp only [St.put, Act.put, Array.toList_setIfInBounds]
      exact h1.set d hv
  · cases dst <;> exact h.df
theorem Sim.slot {cx : Cx} {m : Mp} {S : Nat → Prop} {a : Act} {w : World} {st : St} (h : Sim cx m S a w st) (t : Nat) : Rep m S w (st.env.getD t .top) (a.tmps.getD t undef) := by
  rw [List.getD_eq_getElem?_getD]
  cases hx : st.env[t]? with
  | none => simp only [Option.getD_none, Rep]
  | some x =>
    obtain ⟨v, h1, h2⟩ := h.env.at t x hx
    have : a.tmps[t]? = some v := by rw [← Array.getElem?_toList]; exact h1
    simp only [Option.getD_some, Array.getD_eq_getD_getElem?, this]
    exact h2
theorem wanted_yes {ops : Array Oper} {cx : Cx} {m : Mp} {S : Nat → Prop} {a : Act} {w : World} {st : St} {o : Oper} (h : Sim cx m S a w st) (hg : gYes ops st o = true) : Region.wanted o (yielded ops a.tmps) = true := by
  rw [wanted_env]
  unfold gYes gSlot at hg
  unfold wantedρ
  cases hgd : o.guard with
  | none => rfl
  | some gw =>
    obtain ⟨j, want⟩ := gw
    rw [hgd] at hg
    simp only at hg ⊢
    cases ht : (ops[j]?).bind (·.dst) with
    | none => rw [ht] at hg; cases hg
    | some t =>
      rw [ht] at hg
      have hs := h.slot t
      simp only [Act.fn] at hg ⊢
      split at hg
      · rename_i b hb
        rw [hb] at hs
        simp only [Rep, RepD] at hs
        rw [hs.1]
        simp_all
      · cases hg
theorem wanted_not {ops : Array Oper} {cx : Cx} {m : Mp} {S : Nat → Prop} {a : Act} {w : World} {st : St} {o : Oper} (h : Sim cx m S a w st) (hg : gNo ops st o = true) : Region.wanted o (yielded ops a.tmps) = false := by
  rw [wanted_env]
  unfold gNo gSlot at hg
  unfold wantedρ
  cases hgd : o.guard with
  | none => rw [hgd] at hg; cases hg
  | some gw =>
    obtain ⟨j, want⟩ := gw
    rw [hgd] at hg
    simp only at hg ⊢
    cases ht : (ops[j]?).bind (·.dst) with
    | none => rfl
    | some t =>
      rw [ht] at hg
      have hs := h.slot t
      simp only [Act.fn] at hg ⊢
      split at hg
      · rename_i b hb
        rw [hb] at hs
        simp only [Rep, RepD] at hs
        rw [hs.1]
        simp_all
      · rename_i hb
        rw [hb] at hs
        simp only [Rep, Reps] at hs
        obtain ⟨vs, hv, _⟩ := hs
        rw [hv]
        rfl
      · cases hg

section
variable {P : Program} {ops : Array Oper} {Q : Exit → Act → World → Prop}
/-- A region in the text's order. -/
theorem walk_list {cx : Cx} {K : St → List Ef → Prop} (hQ : ∀ st F m S a w, K st F → Sim cx m S a w st → Q .normal a w) :
    ∀ (l : List Oper) (st : St) (F : List Ef) (m : Mp) (S : Nat → Prop) (a : Act) (w : World), Walk P ops K l st F → Sim cx m S a w st → wpList P ops Q l a w
  | [], st, F, m, S, a, w, h, hs => hQ st F m S a w h hs
  | o :: l, st, F, m, S, a, w, h, hs => by
    unfold wpList
    rcases h with ⟨hg, h⟩ | ⟨hg, R, val, bl, hop, h⟩
    · rw [if_neg (by rw [wanted_not hs hg]; simp)]
      exact walk_list hQ l _ _ m S _ w h (hs.put (bl := []) (Le.refl m) (fun _ h => h) (Keeps.refl S w) hs.hold (by simp only [Rep, Reps]; exact ⟨_, rfl, rfl⟩))
    · rw [if_pos (wanted_yes hs hg)]
      left
      have h1 := hop st (fun _ _ => rfl) rfl cx m S a w hs
      exact h1.wp fun v w' ⟨m', S', k1, k2, k3, k4, k5⟩ => walk_list hQ l _ _ m' S' _ w' h (hs.put k1 k2 k3 k4 k5)

/-- What is known of one operation in the text's order. -/
def StepOK (P : Program) (ops : Array Oper) (o : Oper) (st : St) (e : Ef) : Prop := e.dst = o.dst ∧
  ((gNo ops st o = true ∧ e.val = .tup [] ∧ e.bl = [] ∧ e.R = gLoc ops o) ∨ (gYes ops st o = true ∧ ∃ R, OpRun P o st R e.val e.bl ∧ e.R = gLoc ops o ++ R))
theorem sig_shift (st : St) (e : Ef) (Es : List Ef) : ∀ k, sig st (e :: Es) (fun _ => true) (k + 1) = sig (st.ap e) Es (fun _ => true) k
  | 0 => rfl
  | k + 1 => by rw [sig, sig_shift st e Es k, sig]; simp
theorem walk_parts {K : St → List Ef → Prop} : ∀ (l : List Oper) (st : St) (F : List Ef), Walk P ops K l st F →
    ∃ Es : List Ef, Es.length = l.length ∧ (∀ i o e, l[i]? = some o → Es[i]? = some e → StepOK P ops o (sig st Es (fun _ => true) i) e) ∧ K (sig st Es (fun _ => true) l.length) (F ++ Es)
  | [], st, F, h => ⟨[], rfl, fun i o e ho => by simp at ho, by simpa only [sig, List.length_nil, List.append_nil, Walk] using h⟩
  | o :: l, st, F, h => by
    have key : ∃ e, StepOK P ops o st e ∧ Walk P ops K l (st.ap e) (F ++ [e]) := by
      rcases h with ⟨hg, h⟩ | ⟨hg, R, val, bl, hop, h⟩
      · exact ⟨⟨o.dst, .tup [], [], gLoc ops o⟩, ⟨rfl, .inl ⟨hg, rfl, rfl, rfl⟩⟩, h⟩
      · exact ⟨⟨o.dst, val, bl, gLoc ops o ++ R⟩, ⟨rfl, .inr ⟨hg, R, hop, rfl⟩⟩, h⟩
    obtain ⟨e, he, hw⟩ := key
    obtain ⟨Es, h1, h2, h3⟩ := walk_parts l _ _ hw
    refine ⟨e :: Es, by simp [h1], fun i o' e' ho hE => ?_, by rw [List.length_cons, sig_shift]; simpa using h3⟩
    cases i with
    | zero => simp only [List.getElem?_cons_zero, Option.some.injEq] at ho hE; subst ho; subst hE; exact he
    | succ i => rw [sig_shift]; exact h2 i o' e' (by simpa using ho) (by simpa using hE)
end

/-! ### the order may be drawn -/
def locEq : Loc → Loc → Bool
  | .tmp a, .tmp b => Nat.beq a b
  | .blk a, .blk b => Nat.beq a b
  | _, _ => false
theorem locEq_iff {a b : Loc} : locEq a b = true ↔ a = b := by
  cases a <;> cases b <;> first | (simp only [locEq, Loc.tmp.injEq, Loc.blk.injEq]; exact ⟨Nat.eq_of_beq_eq_true, fun h => by subst h; exact Nat.beq_refl _⟩) | (constructor <;> intro h <;> cases h)
def chkF (ops : Array Oper) (F : List Ef) : Bool :=
  let pre := preOf ops.toList
  let Ws := F.map Ef.W
  Nat.beq F.length ops.size &&
  (List.range ops.size).all fun i => match ops[i]?, F[i]? with
    | some o, some e => Nat.beq (pre.getD i 0) (preAt pre o) && (o.after.toList.filter (Region.binds .any)).all (fun g => Nat.blt g.on i) &&
      (e.R ++ e.W).all fun l => (List.range ops.size).all fun j => !((Ws.getD j []).any (locEq l)) || Nat.beq j i || (match Nat.blt j i with | true => (pre.getD i 0).testBit j | false => (pre.getD j 0).testBit i)
    | _, _ => false
structure ChkF (ops : Array Oper) (F : List Ef) (pre : Nat → Nat → Prop) : Prop where
  len : F.length = ops.size
  clo : ∀ (i : Nat) (o : Oper) (j : Nat), ops[i]? = some o → pre i j → ∃ e ∈ o.after, Region.binds .any e = true ∧ (e.on = j ∨ pre e.on j)
  lt : ∀ (i : Nat) (o : Oper), ops[i]? = some o → ∀ e ∈ o.after, Region.binds .any e = true → e.on < i
  nm : ∀ (i j : Nat) (e ej : Ef) (l : Loc), F[i]? = some e → F[j]? = some ej → l ∈ e.R ++ e.W → l ∈ ej.W → j ≠ i → (j < i → pre i j) ∧ (i < j → pre j i)
theorem chkF_of (ops : Array Oper) (F : List Ef) (h : chkF ops F = true) : ChkF ops F (fun i j => ((preOf ops.toList).getD i 0).testBit j = true) := by
  unfold chkF at h
  simp only [Bool.and_eq_true] at h
  obtain ⟨hlen, h⟩ := h
  have hl : F.length = ops.size := Nat.eq_of_beq_eq_true hlen
  have key : ∀ i o e, ops[i]? = some o → F[i]? = some e → (preOf ops.toList).getD i 0 = preAt (preOf ops.toList) o ∧ (∀ g ∈ o.after, Region.binds .any g = true → g.on < i) ∧
      ∀ l ∈ e.R ++ e.W, ∀ j ej, F[j]? = some ej → l ∈ ej.W → j ≠ i → (j < i → ((preOf ops.toList).getD i 0).testBit j = true) ∧ (i < j → ((preOf ops.toList).getD j 0).testBit i = true) := by
    intro i o e ho he
    have hi : i < ops.size := (Array.getElem?_eq_some_iff.1 ho).1
    have := List.all_eq_true.1 h i (List.mem_range.2 hi)
    simp only [ho, he, Bool.and_eq_true] at this
    obtain ⟨⟨h1, h2⟩, h3⟩ := this
    refine ⟨Nat.eq_of_beq_eq_true h1, fun g hg hb => ?_, fun l hl' j ej hej hlj hne => ?_⟩
    · have := List.all_eq_true.1 h2 g (List.mem_filter.2 ⟨by simpa using hg, hb⟩)
      simpa [Nat.blt_eq] using this
    · have hj : j < ops.size := by rw [← hl]; exact (List.getElem?_eq_some_iff.1 hej).1
      have h4 := List.all_eq_true.1 (List.all_eq_true.1 h3 l hl') j (List.mem_range.2 hj)
      have hw : ((F.map Ef.W).getD j []).any (locEq l) = true := by
        rw [List.getD_eq_getElem?_getD, List.getElem?_map, hej]
        simp only [Option.map_some, Option.getD_some]
        exact List.any_eq_true.2 ⟨l, hlj, locEq_iff.2 rfl⟩
      rw [hw] at h4
      simp only [Bool.not_true, Bool.false_or, Bool.or_eq_true] at h4
      rcases h4 with h4 | h4
      · exact absurd (Nat.eq_of_beq_eq_true h4) hne
      · refine ⟨fun hlt => ?_, fun hlt => ?_⟩
        · have hb : Nat.blt j i = true := by simpa [Nat.blt_eq] using hlt
          rw [hb] at h4; exact h4
        · have hb : Nat.blt j i = false := by
            cases hb : Nat.blt j i with
            | false => rfl
            | true => rw [Nat.blt_eq] at hb; omega
          rw [hb] at h4; exact h4
  have getF : ∀ i o, ops[i]? = some o → ∃ e, F[i]? = some e := fun i o ho => by
    have hi : i < ops.size := (Array.getElem?_eq_some_iff.1 ho).1
    exact ⟨F[i]'(by omega), List.getElem?_eq_getElem (by omega)⟩
  refine ⟨hl, fun i o j ho hp => ?_, fun i o ho => ?_, fun i j e ej l he hej hle hlj hne => ?_⟩
  · obtain ⟨e, he⟩ := getF i o ho
    rw [(key i o e ho he).1] at hp
    obtain ⟨x, hx, hb⟩ := testBit_orAll hp
    obtain ⟨e, he, rfl⟩ := List.mem_map.1 hx
    obtain ⟨he1, he2⟩ := List.mem_filter.1 he
    refine ⟨e, by simpa using he1, he2, ?_⟩
    rw [Nat.testBit_or, Bool.or_eq_true] at hb
    rcases hb with hb | hb
    · left; simpa [Nat.testBit_two_pow] using hb
    · right; exact hb
  · obtain ⟨e, he⟩ := getF i o ho
    exact (key i o e ho he).2.1
  · have hi : i < ops.size := by rw [← hl]; exact (List.getElem?_eq_some_iff.1 he).1
    exact (key i ops[i] e (by simp [hi]) he).2.2 l hle j ej hej hlj hne

theorem St.ext_at {st st' : St} (hl : st'.env.length = st.env.length) (h : ∀ l, st'.at l = st.at l) : st'.env = st.env ∧ ∀ id, st'.H.getD id .unborn = st.H.getD id .unborn := by
  constructor
  · apply List.ext_getElem hl
    intro i h1 h2
    have := h (.tmp i)
    simp only [St.at, Ct.a.injEq, List.getD_eq_getElem?_getD] at this
    simpa [h1, h2] using this
  · intro id
    have := h (.blk id)
    simpa [St.at] using this
theorem Sim.congr {cx : Cx} {m : Mp} {S : Nat → Prop} {a : Act} {w : World} {st st' : St} (hs : Sim cx m S a w st) (hk : st'.k = st.k) (hl : st'.env.length = st.env.length) (h : ∀ l, st'.at l = st.at l) : Sim cx m S a w st' := by
  obtain ⟨h1, h2⟩ := St.ext_at hl h
  exact ⟨hs.hold.congr h2, by rw [h1]; exact hs.env, hs.df, by rw [hk]; exact hs.pre⟩

section
variable {P : Program} {ops : Array Oper} {Q : Exit → Act → World → Prop} {pre : Nat → Nat → Prop} {st0 : St} {Es : List Ef} {cx : Cx}
structure InvF (pre : Nat → Nat → Prop) (cx : Cx) (st0 : St) (Es : List Ef) (listed : Array Bool) (a : Act) (w : World) : Prop where
  down : ∀ i j, listed.getD i false = true → pre i j → listed.getD j false = true
  sim : ∃ m S st, Sim cx m S a w st ∧ st.k = st0.k ∧ st.env.length = st0.env.length ∧ ∀ l, st.at l = (sig st0 Es (fun j => listed.getD j false) Es.length).at l
theorem sig_all {st : St} {Es : List Ef} {X : Nat → Bool} (h : ∀ i, i < Es.length → X i = true) : sig st Es X Es.length = sig st Es (fun _ => true) Es.length :=
  sig_below (fun j hj => h j hj) _ (Nat.le_refl _)
theorem wpAny_walk (hc : ChkF ops Es pre) (hstep : ∀ i o e, ops[i]? = some o → Es[i]? = some e → StepOK P ops o (sig st0 Es (fun _ => true) i) e)
    (hQ : ∀ m S a w, Sim cx m S a w (sig st0 Es (fun _ => true) Es.length) → Q .normal a w) :
    ∀ (fuel : Nat) (listed : Array Bool) (a : Act) (w : World), listed.size = ops.size → listed.toList.countP (· == false) = fuel → InvF pre cx st0 Es listed a w → wpAny P .any ops Q fuel listed a w := by
  have hlen := hc.len
  intro fuel
  induction fuel with
  | zero =>
    intro listed a w hsz hcnt hI
    have hall : ∀ i, i < listed.size → listed.getD i false = true := fun i hi => by
      have := List.countP_eq_zero.1 hcnt listed[i] (by simp)
      simpa [hi] using this
    obtain ⟨m, S, st, h1, hk1, h2, h3⟩ := hI.sim
    refine ⟨?_, hQ m S a w (h1.congr (by rw [sig_k, hk1]) (by rw [sig_length, h2]) fun l => by rw [h3, sig_all fun i hi => hall i (by omega)])⟩
    cases hr : Region.ready .any ops listed with
    | nil => rfl
    | cons x l =>
      have hx : x ∈ Region.ready .any ops listed := by rw [hr]; simp
      obtain ⟨h0, o, ho, _⟩ := mem_ready.1 hx
      have := hall x (by rw [hsz]; exact (Array.getElem?_eq_some_iff.1 ho).1)
      rw [getD_tf h0] at this; cases this
  | succ fuel ih =>
    intro listed a w hsz hcnt hI
    have tf : ∀ i, i < ops.size → listed.getD i false = false → listed.getD i true = false := fun i hi h => by
      simpa [Array.getD_eq_getD_getElem?, show i < listed.size by omega] using h
    have hex : ∃ i, i < ops.size ∧ listed.getD i false = false ∧ ∀ j, j < i → listed.getD j false = true := by
      have hex0 : ∃ i, i < ops.size ∧ listed.getD i false = false := by
        apply Classical.byContradiction
        intro hne
        have : listed.toList.countP (· == false) = 0 := by
          refine List.countP_eq_zero.2 fun b hb => ?_
          obtain ⟨i, hi, rfl⟩ := List.getElem_of_mem hb
          have hi' : i < listed.size := by simpa using hi
          cases hl : listed.getD i false with
          | true => simpa [hi'] using hl
          | false => exact absurd ⟨i, by omega, hl⟩ hne
        omega
      obtain ⟨i, hi, hl⟩ := hex0
      induction i using Nat.strongRecOn with
      | ind i ihi =>
        by_cases hj : ∀ j, j < i → listed.getD j false = true
        · exact ⟨i, hi, hl, hj⟩
        · have : ∃ j, j < i ∧ listed.getD j false = false := by
            apply Classical.byContradiction
            intro hne
            exact hj fun j hj => by
              cases hl : listed.getD j false with
              | true => rfl
              | false => exact absurd ⟨j, hj, hl⟩ hne
          obtain ⟨j, hji, hjl⟩ := this
          exact ihi j hji (by omega) hjl
    obtain ⟨i0, hi0, hl0, hbelow⟩ := hex
    have hrdy : i0 ∈ Region.ready .any ops listed := mem_ready.2 ⟨tf i0 (by omega) hl0, ops[i0], by simp, fun e he hb => hbelow _ (hc.lt i0 _ (by simp) e he hb)⟩
    refine ⟨fun hn => (by rw [hn] at hrdy; cases hrdy), fun i hi => ?_⟩
    obtain ⟨hun, o, ho, hed⟩ := mem_ready.1 hi
    have his : i < ops.size := (Array.getElem?_eq_some_iff.1 ho).1
    have hpre : ∀ j, pre i j → listed.getD j false = true := fun j hp => by
      obtain ⟨e, he, hb, h' | h'⟩ := hc.clo i o j ho hp
      · rw [← h']; exact hed e he hb
      · exact hI.down _ _ (hed e he hb) h'
    have hEi : Es[i]? = some (Es[i]'(by omega)) := by simp [show i < Es.length by omega]
    generalize he : (Es[i]'(by omega)) = e at hEi
    obtain ⟨hd, hst⟩ := hstep i o e ho hEi
    have hXi : (fun j => listed.getD j false) i = false := getD_tf hun
    have hne : ∀ j, j ≠ i → (listed.setIfInBounds i true).getD j false = listed.getD j false := fun j hj => getD_set_ne false (Ne.symm hj)
    have hlook : ∀ l ∈ e.R, (sig st0 Es (fun j => listed.getD j false) Es.length).at l = (sig st0 Es (fun _ => true) i).at l := fun l hl => by
      rw [sig_read (i := i) (fun j ej hej hw => ?_), show min Es.length i = i by omega]
      have hlj : l ∈ ej.W := Ef.wr_W hw
      by_cases hji : j = i
      · subst hji; exact ⟨fun h => by omega, fun _ => hXi⟩
      · have hn := hc.nm i j e ej l hEi hej (by simp [hl]) hlj hji
        refine ⟨fun h => hpre j (hn.1 h), fun h => ?_⟩
        cases hlt : listed.getD j false with
        | false => rfl
        | true => have := hI.down j i hlt (hn.2 (by omega)); simp only at hXi; rw [hXi] at this; cases this
    have hmore : ∀ l, (sig st0 Es (fun j => (listed.setIfInBounds i true).getD j false) Es.length).at l = (e.wr st0.env.length l).getD ((sig st0 Es (fun j => listed.getD j false) Es.length).at l) := fun l =>
      sig_more hEi hXi (getD_set_self hun) (fun j hj => hne j hj) (fun j ej hej hij h1 h2 => by
        have hn := hc.nm i j e ej l hEi hej (by simp [Ef.wr_W h1]) (Ef.wr_W h2) (by omega)
        show listed.getD j false = false
        cases hlt : listed.getD j false with
        | false => rfl
        | true => have := hI.down j i hlt (hn.2 hij); simp only at hXi; rw [hXi] at this; cases this) Es.length (by omega)
    have hcnt' : (listed.setIfInBounds i true).toList.countP (· == false) = fuel := by
      have hil : i < listed.toList.length := by simp [hsz, his]
      have hb : listed.toList[i] = false := by simpa [show i < listed.size by omega] using getD_tf hun
      rw [Array.toList_setIfInBounds, List.countP_set hil, hb, hcnt]
      rfl
    have hdown : ∀ k j, (listed.setIfInBounds i true).getD k false = true → pre k j → (listed.setIfInBounds i true).getD j false = true := fun k j hk hp => by
      by_cases hki : k = i
      · subst hki; exact getD_set_true (hpre j hp)
      · rw [hne k hki] at hk; exact getD_set_true (hI.down k j hk hp)
    obtain ⟨m, S, st, h1, hk1, h2, h3⟩ := hI.sim
    -- the next state, whatever the operation did
    have next : ∀ m' S' v w', Le m m' → (∀ b, S b → S' b) → Keeps S w w' → Hold cx m' S' w' (putB st.H e.bl) → Rep m' S' w' e.val v → wpAny P .any ops Q fuel (listed.setIfInBounds i true) (a.put o.dst v) w' := by
      intro m' S' v w' k1 k2 k3 k4 k5
      refine ih _ _ _ (by simp [hsz]) hcnt' ⟨hdown, m', S', st.ap e, ?_, by simp [St.ap, hk1], by simp [h2], fun l => ?_⟩
      · rw [St.ap, hd]; exact h1.put k1 k2 k3 k4 k5
      · rw [at_ap, h2, h3, hmore]
    -- the guard's slot is as in the text's order
    have hg : ∀ t, gSlot ops o = some t → (Loc.tmp t) ∈ e.R → st.env.getD t .top = (sig st0 Es (fun _ => true) i).env.getD t .top := fun t _ hm => by
      have := (h3 (.tmp t)).trans (hlook _ hm)
      simpa [St.at] using this
    have gmem : ∀ t, gSlot ops o = some t → (Loc.tmp t) ∈ e.R := fun t ht => by
      rcases hst with ⟨_, _, _, hR⟩ | ⟨_, R, _, hR⟩ <;> rw [hR] <;> simp [gLoc, ht]
    have gy : gYes ops st o = gYes ops (sig st0 Es (fun _ => true) i) o := by
      unfold gYes
      cases hgd : o.guard with
      | none => rfl
      | some gw =>
        obtain ⟨_, want⟩ := gw
        cases ht : gSlot ops o with
        | none => rfl
        | some t => simp only; rw [hg t ht (gmem t ht)]
    have gn : gNo ops st o = gNo ops (sig st0 Es (fun _ => true) i) o := by
      unfold gNo
      cases hgd : o.guard with
      | none => rfl
      | some gw =>
        obtain ⟨_, want⟩ := gw
        cases ht : gSlot ops o with
        | none => rfl
        | some t => simp only; rw [hg t ht (gmem t ht)]
    unfold wpOp
    simp only [ho]
    rcases hst with ⟨hno, hval, hbl, hR⟩ | ⟨hyes, R, hop, hR⟩
    · rw [if_neg (by rw [wanted_not h1 (by rw [gn]; exact hno)]; simp)]
      exact next m S undef w (Le.refl m) (fun _ h => h) (Keeps.refl S w) (by rw [hbl]; exact h1.hold) (by rw [hval]; simp only [Rep, Reps]; exact ⟨_, rfl, rfl⟩)
    · rw [if_pos (wanted_yes h1 (by rw [gy]; exact hyes))]
      left
      have h4 := hop st (fun l hl => by rw [h3]; exact hlook l (by rw [hR]; simp [hl])) (by rw [h2, sig_length]) cx m S a w h1
      exact h4.wp fun v w' ⟨m', S', k1, k2, k3, k4, k5⟩ => next m' S' v w' k1 k2 k3 k4 k5
end
section
variable {P : Program} {Q : Exit → Act → World → Prop} {cx : Cx} {m : Mp} {S : Nat → Prop} {a : Act} {w : World} {st : St}
theorem region_drawn {id : Nat} (l : List Oper) (hm : P.follows .mixedOrders = true) (K : St → Prop) (h : Walk P l.toArray (fun st' F => chkF l.toArray F = true ∧ K st') l st [])
    (hs : Sim cx m S a w st) (hQ : ∀ st' m' S' a' w', K st' → Sim cx m' S' a' w' st' → Q .normal a' w') : (Code.region id l.toArray true).wp P Q a w := by
  obtain ⟨Es, h1, h2, h3, h4⟩ := walk_parts l st [] h
  rw [List.nil_append] at h3
  have hc := chkF_of _ _ h3
  have hs' : Sim cx m S a w.drew st := ⟨hs.hold.drew, Reps.mono (w := w) (w' := w.drew) (Le.refl m) (fun _ h => h) (fun _ _ => rfl) _ _ hs.env, hs.df, hs.pre⟩
  have allF : ∀ i, (Array.replicate l.toArray.size false).getD i false = false := by
    intro i
    rw [Array.getD_eq_getD_getElem?, Array.getElem?_replicate]
    split <;> rfl
  refine wp_region_any hm (wpAny_walk (st0 := st) (Es := Es) (cx := cx) hc (fun i o e ho he => h2 i o e (by simpa using ho) he) (fun m S a w hsim => hQ _ m S a w h4 (by rw [← h1]; exact hsim)) _ _ _ _ (by simp) ?_ ?_)
  · simp [List.countP_replicate]
  · refine ⟨fun i j hi _ => ?_, m, S, st, hs', rfl, rfl, fun lc => ?_⟩
    · rw [allF] at hi; cases hi
    · have : ∀ k, sig st Es (fun j => (Array.replicate l.toArray.size false).getD j false) k = st := by
        intro k
        induction k with
        | zero => rfl
        | succ k ih => rw [sig, ih, allF]
      rw [this]
theorem region_text {id : Nat} (l : List Oper) (K : St → Prop) (h : Walk P l.toArray (fun st' F => K st') l st [])
    (hs : Sim cx m S a w st) (hQ : ∀ st' m' S' a' w', K st' → Sim cx m' S' a' w' st' → Q .normal a' w') : (Code.region id l.toArray false).wp P Q a w :=
  wp_region_list (by simpa using walk_list (cx := cx) (fun st F m S a w hk hsim => hQ st m S a w hk hsim) l st [] m S a w h hs)
end
end Go.Proofs.Ytelhmhmgaaebpaa.K

namespace Go.Proofs.Ytelhmhmgaaebpaa.K
open Go.RowKit

/-! ### other names for the same blocks -/
mutual
def A.ren (ids : List Nat) : A → Option A
  | .top => some .top
  | .d x => some (.d x)
  | .agg xs => match A.rens ids xs with | some ys => some (.agg ys) | none => none
  | .tup xs => match A.rens ids xs with | some ys => some (.tup ys) | none => none
  | .loc id off => match ids[id]? with | some k => some (.loc k off) | none => none
  | .own id => match ids[id]? with | some k => some (.own k) | none => none
  | .sub id off n => match ids[id]? with | some k => some (.sub k off n) | none => none
  | .clo fn f c => match A.rens ids f, A.rens ids c with | some f', some c' => some (.clo fn f' c') | _, _ => none
  | .ab p => some (.ab p)
def A.rens (ids : List Nat) : List A → Option (List A)
  | [] => some []
  | x :: xs => match A.ren ids x, A.rens ids xs with | some y, some ys => some (y :: ys) | _, _ => none
end
def Blk.ren (ids : List Nat) : Blk → Option Blk
  | .box xs => match A.rens ids xs with | some ys => some (.box ys) | none => none
  | .rows e sz n xs k a => match A.ren ids a with | some b => some (.rows e sz n xs k b) | none => none
  | b => some b
def via (ids : List Nat) (m : Mp) : Mp := fun j => (ids[j]?).bind m
section
variable {ids : List Nat} {m : Mp} {S : Nat → Prop} {w : World}
mutual
theorem Rep.via : ∀ (x y : A) (v : Value), x.ren ids = some y → (Rep (via ids m) S w x v ↔ Rep m S w y v)
  | .top, y, v, h => by simp only [A.ren, Option.some.injEq] at h; subst h; simp only [Rep]
  | .d x, y, v, h => by simp only [A.ren, Option.some.injEq] at h; subst h; simp only [Rep]
  | .ab p, y, v, h => by simp only [A.ren, Option.some.injEq] at h; subst h; simp only [Rep]
  | .agg xs, y, v, h => by
    simp only [A.ren] at h
    cases hr : A.rens ids xs with
    | none => rw [hr] at h; cases h
    | some ys =>
      rw [hr] at h; simp only [Option.some.injEq] at h; subst h
      simp only [Rep]
      exact ⟨fun ⟨vs, h1, h2⟩ => ⟨vs, h1, (Reps.via xs ys _ hr).1 h2⟩, fun ⟨vs, h1, h2⟩ => ⟨vs, h1, (Reps.via xs ys _ hr).2 h2⟩⟩
  | .tup xs, y, v, h => by
    simp only [A.ren] at h
    cases hr : A.rens ids xs with
    | none => rw [hr] at h; cases h
    | some ys =>
      rw [hr] at h; simp only [Option.some.injEq] at h; subst h
      simp only [Rep]
      exact ⟨fun ⟨vs, h1, h2⟩ => ⟨vs, h1, (Reps.via xs ys _ hr).1 h2⟩, fun ⟨vs, h1, h2⟩ => ⟨vs, h1, (Reps.via xs ys _ hr).2 h2⟩⟩
  | .loc id off, y, v, h => by
    simp only [A.ren] at h
    cases hr : ids[id]? with
    | none => rw [hr] at h; cases h
    | some k => rw [hr] at h; simp only [Option.some.injEq] at h; subst h; simp only [Rep, K.via, hr, Option.bind_some]
  | .own id, y, v, h => by
    simp only [A.ren] at h
    cases hr : ids[id]? with
    | none => rw [hr] at h; cases h
    | some k => rw [hr] at h; simp only [Option.some.injEq] at h; subst h; simp only [Rep, K.via, hr, Option.bind_some]
  | .sub id off n, y, v, h => by
    simp only [A.ren] at h
    cases hr : ids[id]? with
    | none => rw [hr] at h; cases h
    | some k => rw [hr] at h; simp only [Option.some.injEq] at h; subst h; simp only [Rep, K.via, hr, Option.bind_some]
  | .clo fn f c, y, v, h => by
    simp only [A.ren] at h
    cases hf : A.rens ids f with
    | none => rw [hf] at h; simp at h
    | some f' =>
      cases hc : A.rens ids c with
      | none => rw [hf, hc] at h; simp at h
      | some c' =>
        rw [hf, hc] at h; simp only [Option.some.injEq] at h; subst h
        simp only [Rep]
        exact ⟨fun ⟨vs, cs, h1, h2, h3⟩ => ⟨vs, cs, h1, (Reps.via f f' _ hf).1 h2, (Reps.via c c' _ hc).1 h3⟩, fun ⟨vs, cs, h1, h2, h3⟩ => ⟨vs, cs, h1, (Reps.via f f' _ hf).2 h2, (Reps.via c c' _ hc).2 h3⟩⟩
theorem Reps.via : ∀ (xs ys : List A) (vs : List Value), A.rens ids xs = some ys → (Reps (via ids m) S w xs vs ↔ Reps m S w ys vs)
  | [], ys, vs, h => by simp only [A.rens, Option.some.injEq] at h; subst h; simp only [Reps]
  | x :: xs, ys, vs, h => by
    simp only [A.rens] at h
    cases hx : A.ren ids x with
    | none => rw [hx] at h; simp at h
    | some y =>
      cases hr : A.rens ids xs with
      | none => rw [hx, hr] at h; simp at h
      | some zs =>
        rw [hx, hr] at h; simp only [Option.some.injEq] at h; subst h
        simp only [Reps]
        exact ⟨fun ⟨v, r, h1, h2, h3⟩ => ⟨v, r, h1, (Rep.via x y v hx).1 h2, (Reps.via xs zs r hr).1 h3⟩, fun ⟨v, r, h1, h2, h3⟩ => ⟨v, r, h1, (Rep.via x y v hx).2 h2, (Reps.via xs zs r hr).2 h3⟩⟩
end
theorem rens_d : ∀ xs : List D, A.rens ids (xs.map .d) = some (xs.map .d)
  | [] => rfl
  | x :: xs => by simp only [List.map_cons, A.rens, A.ren, rens_d xs]
theorem rens_set {a y : A} (h : a.ren ids = some y) : ∀ (xs : List D) (k : Nat), A.rens ids ((xs.map .d).set k a) = some ((xs.map .d).set k y)
  | [], _ => rfl
  | x :: xs, 0 => by simp only [List.map_cons, List.set_cons_zero, A.rens, h, rens_d xs]
  | x :: xs, k + 1 => by simp only [List.map_cons, List.set_cons_succ, A.rens, A.ren, rens_set h xs k]
theorem BlkOK.via {j k : Nat} {b b' : Blk} (hk : ids[j]? = some k) (h : b.ren ids = some b') : BlkOK (via ids m) S w j b ↔ BlkOK m S w k b' := by
  have hj : K.via ids m j = m k := by simp [K.via, hk]
  cases b with
  | unborn => simp only [Blk.ren, Option.some.injEq] at h; subst h; simp only [BlkOK, hj]
  | gone => simp only [Blk.ren, Option.some.injEq] at h; subst h; simp only [BlkOK, hj]
  | arr e sz n xs => simp only [Blk.ren, Option.some.injEq] at h; subst h; simp only [BlkOK, hj]
  | fro e sz n xs => simp only [Blk.ren, Option.some.injEq] at h; subst h; simp only [BlkOK, hj]
  | mp ks cs => simp only [Blk.ren, Option.some.injEq] at h; subst h; simp only [BlkOK, hj]
  | rows e sz n xs kq aq =>
    simp only [Blk.ren] at h
    cases hr : A.ren ids aq with
    | none => rw [hr] at h; cases h
    | some y =>
      rw [hr] at h; simp only [Option.some.injEq] at h; subst h
      simp only [BlkOK, hj, Reps.via _ _ _ (rens_set hr xs kq)]
  | box xs =>
    simp only [Blk.ren] at h
    cases hr : A.rens ids xs with
    | none => rw [hr] at h; cases h
    | some ys =>
      rw [hr] at h; simp only [Option.some.injEq] at h; subst h
      simp only [BlkOK, hj, Reps.via xs ys _ hr]
end

/-! ### code -/
section
variable (P : Program)
def AWP (K : Exit → St → Prop) (c : Code) (st : St) : Prop :=
  ∀ (cx : Cx) (m : Mp) (S : Nat → Prop) (a : Act) (w : World), Sim cx m S a w st → c.wp P (fun e a' w' => ∃ st' m' S', K e st' ∧ Sim cx m' S' a' w' st') a w
def Then (K : Exit → St → Prop) (b : Code) : Exit → St → Prop
  | .normal, st => AWP P K b st
  | e, st => K e st
end
def InBlock (id : Nat) (K : Exit → St → Prop) : Exit → St → Prop
  | .exit id', st => match Nat.beq id' id with | true => K .normal st | false => K (.exit id') st
  | e, st => K e st
/-- A constant's value. -/
def litA : Value → A
  | .slice none 0 0 => .d .nil
  | .map none => .d (.mp true [] [])
  | v => match v.oneCell' with | true => .d (.lit v) | false => .top
def ofV : Value → A
  | .agg cs => .agg (cs.toList.map litA)
  | v => litA v
theorem litA_rep {m : Mp} {S : Nat → Prop} {w : World} (v : Value) : Rep m S w (litA v) v := by
  unfold litA
  split
  · simp only [Rep]; unfold RepD; rfl
  · simp only [Rep]; unfold RepD; exact .inl ⟨rfl, rfl, rfl, rfl⟩
  · split
    · rename_i h; simp only [Rep]; unfold RepD; exact ⟨rfl, h⟩
    · simp only [Rep]
theorem litAs_rep {m : Mp} {S : Nat → Prop} {w : World} (vs : List Value) : Reps m S w (vs.map litA) vs :=
  Reps.of (by simp) fun i x v hx hv => by
    rw [List.getElem?_map, hv] at hx
    simp only [Option.map_some, Option.some.injEq] at hx
    subst hx; exact litA_rep v
theorem ofV_rep {m : Mp} {S : Nat → Prop} {w : World} (v : Value) : Rep m S w (ofV v) v := by
  unfold ofV
  split
  · simp only [Rep]; exact ⟨_, rfl, litAs_rep _⟩
  · exact litA_rep _
def opA (st : St) : Operand → A
  | .tmp t => st.env.getD t .top
  | .const v => ofV v
  | .global g => match gcs g with | some cs => .d (.ref cs) | none => .d (.lit (.pointer (some ⟨g, 0, none⟩)))
  | .func f => .clo (.func f) [] []
theorem Sim.op {cx : Cx} {m : Mp} {S : Nat → Prop} {a : Act} {w : World} {st : St} (h : Sim cx m S a w st) (x : Operand) : Rep m S w (opA st x) (a.eval x) := by
  cases x with
  | tmp t => exact h.slot t
  | const v => exact ofV_rep v
  | global g =>
    simp only [opA]
    cases hg : gcs g with
    | none => simp only [Rep, RepD]; exact ⟨rfl, rfl⟩
    | some cs => simp only [Rep, RepD]; exact ⟨_, rfl, h.hold.gw g cs hg⟩
  | func f => simp only [opA, Rep, Reps]; exact ⟨_, _, rfl, rfl, rfl⟩
section
variable {P : Program} {K : Exit → St → Prop} {st : St}
theorem AWP.mono {c : Code} {K' : Exit → St → Prop} (h : AWP P K c st) (hk : ∀ e st', K e st' → K' e st') : AWP P K' c st := fun cx m S a w hs =>
  wp_mono (h cx m S a w hs) fun e a' w' ⟨st', m', S', h1, h2⟩ => ⟨st', m', S', hk _ _ h1, h2⟩
theorem AWP.skip (h : K .normal st) : AWP P K .skip st := fun cx m S a w hs => wp_skip ⟨st, m, S, h, hs⟩
theorem AWP.ret (h : K .ret st) : AWP P K .ret st := fun cx m S a w hs => wp_ret ⟨st, m, S, h, hs⟩
theorem AWP.exit {id : Nat} (h : K (.exit id) st) : AWP P K (.exit id) st := fun cx m S a w hs => wp_exit ⟨st, m, S, h, hs⟩
theorem AWP.seq {b c : Code} (h : AWP P (Then P K c) b st) : AWP P K (.seq b c) st := fun cx m S a w hs =>
  wp_seq (wp_mono (h cx m S a w hs) fun e a' w' ⟨st', m', S', h1, h2⟩ => by
    cases e with
    | normal => exact h1 cx m' S' a' w' h2
    | exit id => exact ⟨st', m', S', h1, h2⟩
    | goto l => exact ⟨st', m', S', h1, h2⟩
    | ret => exact ⟨st', m', S', h1, h2⟩
    | panic ch => exact ⟨st', m', S', h1, h2⟩
    | outgrown => exact ⟨st', m', S', h1, h2⟩)
theorem AWP.cond {c : Operand} {x y : Code} {b : Bool} (hc : opA st c = .d (.lit (.bool b))) (ht : b = true → AWP P K x st) (hf : b = false → AWP P K y st) : AWP P K (.cond c x y) st := fun cx m S a w hs => by
  have := hs.op c
  rw [hc] at this
  simp only [Rep, RepD] at this
  exact wp_cond_split this.1 (fun h => ht h cx m S a w hs) (fun h => hf h cx m S a w hs)
theorem AWP.condU {c : Operand} {x y : Code} {p : Prop} (hc : opA st c = .ab p) (ht : p → AWP P K x st) (hf : AWP P K y st) : AWP P K (.cond c x y) st := fun cx m S a w hs => by
  have := hs.op c
  rw [hc] at this
  simp only [Rep] at this
  obtain ⟨b, h1, h2⟩ := this
  exact wp_cond_split h1 (fun h => ht (h2 h) cx m S a w hs) (fun h => hf cx m S a w hs)
theorem AWP.block {id : Nat} {c : Code} (h : AWP P (InBlock id K) c st) : AWP P K (.block id c) st := fun cx m S a w hs =>
  wp_block (wp_mono (h cx m S a w hs) fun e a' w' ⟨st', m', S', h1, h2⟩ => by
    cases e with
    | exit id' =>
      simp only [InBlock, Exit.inBlock] at h1 ⊢
      by_cases hid : id' = id
      · subst hid; simp only [Nat.beq_refl] at h1; simp only [if_true]; exact ⟨st', m', S', h1, h2⟩
      · have : Nat.beq id' id = false := by
          cases hb : Nat.beq id' id with
          | false => rfl
          | true => exact absurd (Nat.eq_of_beq_eq_true hb) hid
        rw [this] at h1
        simp only [hid, if_false]; exact ⟨st', m', S', h1, h2⟩
    | normal => exact ⟨st', m', S', h1, h2⟩
    | goto l => exact ⟨st', m', S', h1, h2⟩
    | ret => exact ⟨st', m', S', h1, h2⟩
    | panic ch => exact ⟨st', m', S', h1, h2⟩
    | outgrown => exact ⟨st', m', S', h1, h2⟩)
theorem AWP.drawn {id : Nat} {l : List Oper} (hm : P.follows .mixedOrders = true) (h : Walk P l.toArray (fun st' F => chkF l.toArray F = true ∧ K .normal st') l st []) : AWP P K (.region id l.toArray true) st := fun cx m S a w hs =>
  region_drawn l hm (fun st' => K .normal st') h hs fun st' m' S' a' w' h1 h2 => ⟨st', m', S', h1, h2⟩
theorem AWP.text {id : Nat} {l : List Oper} (h : Walk P l.toArray (fun st' _ => K .normal st') l st []) : AWP P K (.region id l.toArray false) st := fun cx m S a w hs =>
  region_text l (fun st' => K .normal st') h hs fun st' m' S' a' w' h1 h2 => ⟨st', m', S', h1, h2⟩
/-- Rounds of a loop, so many at most. -/
def Rounds (P : Program) (K : Exit → St → Prop) (c : Code) : Nat → St → Prop
  | 0, _ => False
  | n + 1, st => AWP P (fun e st' => match e with | .normal => Rounds P K c n st' | e => K e st') c st
theorem AWP.loop {c : Code} (n : Nat) (h : Rounds P K c n st) : AWP P K (.loop c) st := fun cx m S a w hs => by
  let I : Act → World → Prop := fun a w => ∃ n st m S, Rounds P K c n st ∧ Sim cx m S a w st
  have least : ∀ a w, I a w → ∃ n, (∃ st m S, Rounds P K c n st ∧ Sim cx m S a w st) ∧ ∀ k, k < n → ¬ ∃ st m S, Rounds P K c k st ∧ Sim cx m S a w st := by
    rintro a w ⟨n, h⟩
    induction n using Nat.strongRecOn with
    | ind n ih =>
      by_cases hk : ∃ k, k < n ∧ ∃ st m S, Rounds P K c k st ∧ Sim cx m S a w st
      · obtain ⟨k, hkn, hk⟩ := hk; exact ih k hkn hk
      · exact ⟨n, h, fun k hkn hk' => hk ⟨k, hkn, hk'⟩⟩
  refine wp_loop I (fun a w => open Classical in if h : I a w then Classical.choose (least a w h) else 0) ⟨n, st, m, S, h, hs⟩ fun a w hI => ?_
  have hsp := Classical.choose_spec (least a w hI)
  simp only [dif_pos hI]
  generalize Classical.choose (least a w hI) = n at hsp
  obtain ⟨⟨st, m, S, h1, h2⟩, h3⟩ := hsp
  cases n with
  | zero => exact h1.elim
  | succ n =>
    refine wp_mono (h1 cx m S a w h2) fun e a' w' ⟨st', m', S', k1, k2⟩ => ?_
    cases e with
    | normal =>
      have hI' : I a' w' := ⟨n, st', m', S', k1, k2⟩
      refine ⟨hI', ?_⟩
      simp only [dif_pos hI']
      have hsp' := Classical.choose_spec (least a' w' hI')
      generalize Classical.choose (least a' w' hI') = n' at hsp'
      have : ¬ n < n' := fun hlt => hsp'.2 n hlt ⟨st', m', S', k1, k2⟩
      omega
    | exit id => exact ⟨st', m', S', k1, k2⟩
    | goto l => exact ⟨st', m', S', k1, k2⟩
    | ret => exact ⟨st', m', S', k1, k2⟩
    | panic ch => exact ⟨st', m', S', k1, k2⟩
    | outgrown => exact ⟨st', m', S', k1, k2⟩
theorem Rounds.mono {c : Code} : ∀ {n n' : Nat} {st : St}, n ≤ n' → Rounds P K c n st → Rounds P K c n' st
  | 0, _, _, _, h => h.elim
  | n + 1, 0, _, hl, _ => by omega
  | n + 1, n' + 1, st, hl, h => AWP.mono h fun e st' hk => by
    cases e with
    | normal => exact Rounds.mono (by omega) hk
    | exit id => exact hk
    | goto l => exact hk
    | ret => exact hk
    | panic ch => exact hk
    | outgrown => exact hk
/-- One may forget what a state says, and name it otherwise. -/
def Weak (st st' : St) : Prop := ∀ (cx : Cx) (m : Mp) (S : Nat → Prop) (a : Act) (w : World), Sim cx m S a w st → ∃ m' S', Sim cx m' S' a w st'
theorem AWP.weak {c : Code} {st' : St} (hw : Weak st st') (h : AWP P K c st') : AWP P K c st := fun cx m S a w hs => by
  obtain ⟨m', S', h'⟩ := hw cx m S a w hs
  exact h cx m' S' a w h'
theorem Weak.trans {a b c : St} (h : Weak a b) (k : Weak b c) : Weak a c := fun cx m S x w hs => by
  obtain ⟨m', S', h'⟩ := h cx m S x w hs
  exact k cx m' S' x w h'
end

/-- A nil slice is one of no elements. -/
def D.nn : D → D
  | .nil => .sl 0 []
  | x => x
mutual
def A.nn : A → A
  | .d x => .d x.nn
  | .agg xs => .agg (A.nns xs)
  | .tup xs => .tup (A.nns xs)
  | .clo fn f c => .clo fn (A.nns f) (A.nns c)
  | .top => .top
  | .loc id off => .loc id off
  | .own id => .own id
  | .sub id off n => .sub id off n
  | .ab p => .ab p
def A.nns : List A → List A
  | [] => []
  | x :: xs => A.nn x :: A.nns xs
end
section
variable {m : Mp} {S : Nat → Prop} {w : World}
theorem RepD.nn {x : D} {v : Value} (h : RepD S w x v) : RepD S w x.nn v := by
  cases x with
  | nil => simp only [RepD] at h; subst h; simp only [D.nn]; unfold RepD; exact ⟨none, 0, rfl, Nat.le_refl _, Nat.zero_le _, fun _ => ⟨rfl, rfl⟩, by simp only [RepDs]⟩
  | lit v => exact h
  | sl n cs => exact h
  | ref cs => exact h
  | slc n cs => exact h
  | mp nl ks cs => exact h
mutual
theorem Rep.nn : ∀ (x : A) (v : Value), Rep m S w x v → Rep m S w x.nn v
  | .d x, v, h => by simp only [Rep, A.nn] at h ⊢; exact h.nn
  | .agg xs, v, h => by
    simp only [Rep, A.nn] at h ⊢
    obtain ⟨vs, h1, h2⟩ := h
    exact ⟨vs, h1, Reps.nn xs _ h2⟩
  | .tup xs, v, h => by
    simp only [Rep, A.nn] at h ⊢
    obtain ⟨vs, h1, h2⟩ := h
    exact ⟨vs, h1, Reps.nn xs _ h2⟩
  | .clo fn f c, v, h => by
    simp only [Rep, A.nn] at h ⊢
    obtain ⟨vs, cs, h1, h2, h3⟩ := h
    exact ⟨vs, cs, h1, Reps.nn f _ h2, Reps.nn c _ h3⟩
  | .top, v, h => h
  | .loc id off, v, h => h
  | .own id, v, h => h
  | .sub id off n, v, h => h
  | .ab p, v, h => h
theorem Reps.nn : ∀ (xs : List A) (vs : List Value), Reps m S w xs vs → Reps m S w (A.nns xs) vs
  | [], vs, h => h
  | x :: xs, vs, h => by
    simp only [Reps, A.nns] at h ⊢
    obtain ⟨v, r, h1, h2, h3⟩ := h
    exact ⟨v, r, h1, Rep.nn x v h2, Reps.nn xs r h3⟩
end
end

/-! ### calls -/
def P0of (m : Mp) (S : Nat → Prop) : Nat → Prop := fun b => ∃ id p, m id = some p ∧ p.blk = some b ∧ ¬ S b
abbrev cxOf (m : Mp) (S : Nat → Prop) (w : World) (hg : GW S w) (hz : ∀ b, S b → b < w.heap.size) : Cx := ⟨w, S, P0of m S, m, hg, fun b hb => ⟨fun ⟨_, _, _, _, h⟩ => h hb, hz b hb⟩⟩
/-- A call of f with what reads as args, which may write the blocks 'pre', comes back with what reads as res; the blocks are then 'post' (behind those of 'pre', new ones); all else is as it was. -/
def GCall (P : Program) (f : FuncId) (args : List A) (pre : List Blk) (res : A) (post : List Blk) : Prop :=
  ∀ (m : Mp) (S : Nat → Prop) (w : World) (vs : List Value) (hg : GW S w) (hz : ∀ b, S b → b < w.heap.size), Hold (cxOf m S w hg hz) m S w pre → Reps m S w args vs →
    Calls P f vs.toArray w fun e w' => ∃ v m' S', e = .returned v ∧ Hold (cxOf m S w hg hz) m' S' w' post ∧ Rep m' S' w' res v
/-- A variable's value, of its cells. -/
def loadA (P : Program) (t : TypeId) (xs : List A) (off : Nat) : Option A :=
  match P.underlying t with
  | some (.struct _) | some (.array _ _) => match P.info? t with
    | some i => match Nat.ble (off + i.size) xs.length with | true => some (.agg ((xs.drop off).take i.size)) | false => none
    | none => none
  | some _ => xs[off]?
  | none => none
def resOf (P : Program) (st : St) : ResultVar → Option A
  | .tmp t => some (st.env.getD t .top)
  | .cell a t => match st.env.getD a .top with
    | .loc id off => match st.H.getD id .unborn with
      | .box xs => loadA P t xs off
      | _ => none
    | _ => none
def resList (P : Program) (st : St) : List ResultVar → Option (List A)
  | [] => some []
  | r :: rs => match resOf P st r, resList P st rs with | some x, some xs => some (x :: xs) | _, _ => none
def one : List A → A
  | [x] => x
  | xs => .tup xs
theorem run_loadA {P : Program} {t : TypeId} {xs : List A} {off : Nat} {x : A} (h : loadA P t xs off = some x) {m : Mp} {S : Nat → Prop} {w : World} {b : Nat} {cells : Array Value} {T : TypeId} {fr : Nat × Nat}
    (hb : w.heap[b]? = some (.cells cells T fr)) (hr : Reps m S w xs cells.toList) : ∃ v, (loadVar t ⟨b, off, none⟩).run P w = .ok v w ∧ Rep m S w x v := by
  have hcell : ∀ i, w.cell? ⟨b, i, none⟩ = cells[i]? := fun i => by simp [World.cell?, hb]
  have hadd : ∀ j, (⟨b, off, none⟩ : Addr).add j = ⟨b, off + j, none⟩ := fun j => by unfold Addr.add; split <;> simp_all
  have scalar : xs[off]? = some x → ∃ v, w.cell? ⟨b, off, none⟩ = some v ∧ Rep m S w x v := fun hx => by
    obtain ⟨v, h1, h2⟩ := hr.at off x hx
    exact ⟨v, by rw [hcell, ← Array.getElem?_toList]; exact h1, h2⟩
  have aggr : ∀ (i : TypeInfo), P.info? t = some i → (match Nat.ble (off + i.size) xs.length with | true => some (A.agg ((xs.drop off).take i.size)) | false => none) = some x →
      ∃ v, (do pure (Value.agg (← loadCells ⟨b, off, none⟩ (← sizeOf t))) : Sem Value).run P w = .ok v w ∧ Rep m S w x v := fun i hi hx => by
    cases hble : Nat.ble (off + i.size) xs.length with
    | false => rw [hble] at hx; cases hx
    | true =>
      rw [hble] at hx
      simp only [Option.some.injEq] at hx
      subst hx
      have hle : off + i.size ≤ xs.length := by simpa [Nat.ble_eq] using hble
      have hlen := hr.length
      have hl : ((cells.toList.drop off).take i.size).length = i.size := by simp at hlen ⊢; omega
      have hld := run_loadCells_list (P := P) (w := w) ⟨b, off, none⟩ ((cells.toList.drop off).take i.size) (fun j v hj => by
        rw [hadd, hcell, ← Array.getElem?_toList]
        rw [List.getElem?_take] at hj
        split at hj
        · rwa [List.getElem?_drop] at hj
        · cases hj)
      rw [hl] at hld
      refine ⟨.agg ((cells.toList.drop off).take i.size).toArray, ?_, ?_⟩
      · simp [sizeOf, typeInfo, hi, hld]
      · simp only [Rep]
        refine ⟨_, rfl, Reps.of (by simp at hlen ⊢; omega) fun j y v hy hv => ?_⟩
        simp only [List.getElem?_take, List.getElem?_drop] at hy hv
        split at hy
        · rename_i hj
          rw [if_pos hj] at hv
          obtain ⟨v', h1, h2⟩ := hr.at _ y hy
          rw [h1] at hv; cases hv; exact h2
        · cases hy
  unfold loadA at h
  cases hu : P.underlying t with
  | none => rw [hu] at h; cases h
  | some d =>
    rw [hu] at h
    have key : ∀ (agg : Bool), (isAgg t).run P w = .ok agg w → (loadVar t ⟨b, off, none⟩).run P w = if agg then (do pure (Value.agg (← loadCells ⟨b, off, none⟩ (← sizeOf t))) : Sem Value).run P w else (load ⟨b, off, none⟩).run P w := fun agg h => by
      unfold loadVar
      simp only [Sem.run_bind, h, Result.andThen_ok]
      cases agg <;> simp
    cases d with
    | struct fs =>
      rw [key true (by simp [isAgg, underlying, hu])]
      simp only at h
      cases hi : P.info? t with
      | none => rw [hi] at h; cases h
      | some i => rw [hi] at h; exact aggr i hi h
    | array n e =>
      rw [key true (by simp [isAgg, underlying, hu])]
      simp only at h
      cases hi : P.info? t with
      | none => rw [hi] at h; cases h
      | some i => rw [hi] at h; exact aggr i hi h
    | _ =>
      rw [key false (by simp [isAgg, underlying, hu])]
      simp only at h
      obtain ⟨v, h1, h2⟩ := scalar h
      exact ⟨v, by simp [h1], h2⟩
end Go.Proofs.Ytelhmhmgaaebpaa.K

namespace Go.Proofs.Ytelhmhmgaaebpaa.K
open Go.RowKit

theorem getD_none {H : List Blk} {j : Nat} (h : H.length ≤ j) : H.getD j .unborn = .unborn := by rw [List.getD_eq_getElem?_getD, List.getElem?_eq_none h]; rfl
theorem getD_some {H : List Blk} {j : Nat} (h : j < H.length) : H[j]? = some (H.getD j .unborn) := by rw [List.getD_eq_getElem?_getD, List.getElem?_eq_getElem h]; rfl
/-- Some of the blocks, by other names. -/
def renH (ids : List Nat) (post H : List Blk) : Prop := ids.length = post.length ∧ ∀ j k, ids[j]? = some k → (post.getD j .unborn).ren ids = some (H.getD k .unborn)
theorem via_some {ids : List Nat} {m : Mp} {j : Nat} {p : Pl} (h : via ids m j = some p) : ∃ k, ids[j]? = some k ∧ m k = some p := by
  unfold via at h
  cases hk : ids[j]? with
  | none => rw [hk] at h; cases h
  | some k => rw [hk] at h; exact ⟨k, rfl, h⟩
theorem Hold.via {cx : Cx} {m : Mp} {S : Nat → Prop} {w : World} {H post : List Blk} {ids : List Nat} (h : Hold cx m S w H) (hn : ids.Nodup) (hr : renH ids post H) (hle : Le cx.m0 (via ids m)) : Hold cx (via ids m) S w post := by
  refine ⟨h.os, h.tape, h.output, h.size, h.old, h.s0, h.s, fun id p b hp hb => ?_, fun id id' p p' b hne hp hp' hb => ?_, fun j => ?_, hle⟩
  · obtain ⟨k, _, hk⟩ := via_some hp; exact h.pl k p b hk hb
  · obtain ⟨k, h1, hk⟩ := via_some hp
    obtain ⟨k', h1', hk'⟩ := via_some hp'
    refine h.apart k k' p p' b (fun he => hne ?_) hk hk' hb
    subst he
    exact (List.getElem?_inj (List.getElem?_eq_some_iff.1 h1).1 hn).1 (h1.trans h1'.symm)
  · rcases Nat.lt_or_ge j ids.length with hj | hj
    · have hk : ids[j]? = some ids[j] := List.getElem?_eq_getElem hj
      exact (BlkOK.via hk (hr.2 j _ hk)).2 (h.ok _)
    · rw [getD_none (by rw [← hr.1]; exact hj)]
      simp only [BlkOK, K.via, List.getElem?_eq_none hj, Option.bind_none]

section
variable {P : Program}
theorem run_results {cx : Cx} {m : Mp} {S : Nat → Prop} {a : Act} {w : World} {st : St} (hs : Sim cx m S a w st) : ∀ {rs : List ResultVar} {xs : List A}, resList P st rs = some xs →
    ∃ vs, (rs.mapM (fun r : ResultVar => (match r with | .tmp t => pure (a.tmps.getD t undef) | .cell c t => do loadVar t (← asAddr (a.tmps.getD c undef)) : Sem Value))).run P w = .ok vs w ∧ Reps m S w xs vs
  | [], xs, h => by
    simp only [resList, Option.some.injEq] at h; subst h
    exact ⟨[], by simp, by simp only [Reps]⟩
  | r :: rs, xs, h => by
    simp only [resList] at h
    cases hx : resOf P st r with
    | none => rw [hx] at h; simp at h
    | some x =>
      cases hr : resList P st rs with
      | none => rw [hx, hr] at h; simp at h
      | some ys =>
        rw [hx, hr] at h; simp only [Option.some.injEq] at h; subst h
        obtain ⟨vs, h1, h2⟩ := run_results hs hr
        have key : ∃ v, (match r with | .tmp t => pure (a.tmps.getD t undef) | .cell c t => do loadVar t (← asAddr (a.tmps.getD c undef)) : Sem Value).run P w = .ok v w ∧ Rep m S w x v := by
          cases r with
          | tmp t =>
            simp only [resOf, Option.some.injEq] at hx; subst hx
            exact ⟨_, rfl, hs.slot t⟩
          | cell c t =>
            simp only [resOf] at hx
            have hc := hs.slot c
            split at hx
            · rename_i id off he
              rw [he] at hc
              split at hx
              · rename_i xs hb
                have hok := hs.hold.ok id
                rw [hb] at hok
                obtain ⟨b, cells, T, h3, h4, h5, h6, h7⟩ := hok
                simp only [Rep, h3] at hc
                obtain ⟨v, h8, h9⟩ := run_loadA hx h4 h5
                exact ⟨v, by simp only [hc]; simpa [asAddr] using h8, h9⟩
              · cases hx
            · cases hx
        obtain ⟨v, h3, h4⟩ := key
        refine ⟨v :: vs, ?_, by simp only [Reps]; exact ⟨v, vs, rfl, h4, h2⟩⟩
        rw [List.mapM_cons]
        simp only [Sem.run_bind, h3, Result.andThen_ok, h1, Sem.run_pure]
theorem results_run {fn : Func} {cx : Cx} {m : Mp} {S : Nat → Prop} {a : Act} {w : World} {st : St} (hs : Sim cx m S a w st) {rs : List ResultVar} (hrs : fn.results = rs.toArray) {xs : List A} (h : resList P st rs = some xs) :
    ∃ v, (results fn a.tmps).run P w = .ok v w ∧ Rep m S w (one xs) v := by
  obtain ⟨vs, h1, h2⟩ := run_results hs h
  have e : (fn.results.mapM (fun r : ResultVar => (match r with | .tmp t => pure (a.tmps.getD t undef) | .cell c t => do loadVar t (← asAddr (a.tmps.getD c undef)) : Sem Value))).run P w = .ok vs.toArray w := by
    rw [hrs, List.mapM_toArray]
    simp only [Sem.run_map, h1, Result.andThen_ok]
  have e2 : (results fn a.tmps).run P w = .ok (if h : vs.toArray.size = 1 then vs.toArray[0] else .tuple vs.toArray) w := by
    unfold results
    simp only [Sem.run_bind]
    erw [e]
    simp only [Result.andThen_ok, Sem.run_pure]
  refine ⟨_, e2, ?_⟩
  have hl := h2.length
  match xs, vs, h2, hl with
  | [], vs, h2, hl =>
    have : vs = [] := List.eq_nil_of_length_eq_zero (by simpa using hl)
    subst this
    simp only [one, Rep]; exact ⟨_, rfl, h2⟩
  | [x], vs, h2, hl =>
    simp only [Reps] at h2
    obtain ⟨v, r, rfl, h3, rfl⟩ := h2
    simpa [one] using h3
  | x :: y :: zs, vs, h2, hl =>
    have hne : ¬ vs.toArray.size = 1 := by simp at hl ⊢; omega
    rw [dif_neg hne]
    simp only [one, Rep]; exact ⟨_, rfl, h2⟩

/-- What stands at a function's end: its results, the blocks that it was handed, and those that it hands over. -/
def RetK (P : Program) (rs : List ResultVar) (k : Nat) (res : A) (post : List Blk) : Exit → St → Prop
  | .normal, st | .ret, st => ∃ (ids : List Nat) (xs : List A), resList P st rs = some xs ∧ res.ren ids = some (one xs).nn ∧ renH ids post st.H ∧ ids.Nodup ∧ k ≤ ids.length ∧ ids.take k = List.range k
  | _, _ => False
theorem GCall.of_body {f : FuncId} {fn : Func} {c : Code} {args : List A} {pre post : List Blk} {res : A} {rs : List ResultVar} {n : Nat} (hf : P.funcs[f]? = some fn) (hb : fn.body = some c) (hrs : fn.results = rs.toArray) (hn : fn.ntmps = n)
    (h : AWP P (RetK P rs pre.length res post) c ⟨args ++ List.replicate (n - args.length) (.tup []), pre, pre.length⟩) : GCall P f args pre res post := by
  intro m S w vs hg hz hH hargs
  refine calls_of_wp hf hb ?_
  have hlen := hargs.length
  have hsim : Sim (cxOf m S w hg hz) m S { tmps := vs.toArray ++ Array.replicate (fn.ntmps - vs.toArray.size) undef, defers := [] } w ⟨args ++ List.replicate (n - args.length) (.tup []), pre, pre.length⟩ := by
    refine ⟨hH, ?_, rfl, fun id hid => by have := hH.ok id; rw [getD_none hid] at this; exact this⟩
    have : (vs.toArray ++ Array.replicate (fn.ntmps - vs.toArray.size) undef).toList = vs ++ List.replicate (n - args.length) undef := by simp [hn, hlen]
    rw [this]
    refine hargs.append (Reps.of (by simp) fun i x v hx hv => ?_)
    rw [List.getElem?_replicate] at hx hv
    split at hx
    · rename_i hi; rw [if_pos hi] at hv; cases hx; cases hv; simp only [Rep, Reps]; exact ⟨_, rfl, rfl⟩
    · cases hx
  refine wp_mono (h _ m S _ w hsim) fun e a' w' ⟨st', m', S', hk, hs'⟩ => ?_
  have key : ∀ (ids : List Nat) (xs : List A), resList P st' rs = some xs → res.ren ids = some (one xs).nn → renH ids post st'.H → ids.Nodup → pre.length ≤ ids.length → ids.take pre.length = List.range pre.length →
      (∃ v, (results fn a'.tmps).run P w' = .ok v w' ∧ ∃ v' m' S', Ending.returned v = .returned v' ∧ Hold (cxOf m S w hg hz) m' S' w' post ∧ Rep m' S' w' res v') := by
    intro ids xs h1 h2 h3 h4 h5 h6
    obtain ⟨v, h7, h8⟩ := results_run hs' hrs h1
    refine ⟨v, h7, v, via ids m', S', rfl, hs'.hold.via h4 h3 fun id p hp => ?_, (Rep.via res _ v h2).2 (Rep.nn _ _ h8)⟩
    have hid : id < pre.length := by
      rcases Nat.lt_or_ge id pre.length with h | h
      · exact h
      · have := hH.ok id; rw [getD_none h] at this; simp only [BlkOK] at this; simp only at hp; rw [this] at hp; cases hp
    have hk : ids[id]? = some id := by
      have : (ids.take pre.length)[id]? = some id := by rw [h6, List.getElem?_range hid]
      rwa [List.getElem?_take, if_pos hid] at this
    simp only [K.via, hk, Option.bind_some]
    exact hs'.hold.le id p hp
  cases e with
  | normal =>
    obtain ⟨ids, xs, h1, h2, h3, h4, h5, h6⟩ := hk
    obtain ⟨v, h7, h8⟩ := key ids xs h1 h2 h3 h4 h5 h6
    exact ⟨hs'.df, v, h7, h8⟩
  | ret =>
    obtain ⟨ids, xs, h1, h2, h3, h4, h5, h6⟩ := hk
    obtain ⟨v, h7, h8⟩ := key ids xs h1 h2 h3 h4 h5 h6
    exact ⟨hs'.df, v, h7, h8⟩
  | exit id => exact hk.elim
  | goto l => exact hk.elim
  | panic ch => exact hk.elim
  | outgrown => exact hk.elim
end
end Go.Proofs.Ytelhmhmgaaebpaa.K

namespace Go.Proofs.Ytelhmhmgaaebpaa.K
open Go.RowKit

def toDs : List A → Option (List D)
  | [] => some []
  | .d x :: xs => match toDs xs with | some ys => some (x.nn :: ys) | none => none
  | _ :: _ => none
def inB (ids : List Nat) (k : Nat) : Bool := ids.any (Nat.beq k)
theorem inB_iff {ids : List Nat} {k : Nat} : inB ids k = true ↔ k ∈ ids := by
  simp only [inB, List.any_eq_true]
  exact ⟨fun ⟨x, h1, h2⟩ => by rw [Nat.eq_of_beq_eq_true h2]; exact h1, fun h => ⟨k, h, Nat.beq_refl k⟩⟩
mutual
/-- A value as another call sees it, that may only read the blocks 'vids'. -/
def A.view (H : List Blk) (vids : List Nat) : A → A
  | .own id => match inB vids id, H.getD id .unborn with
    | true, .arr _ _ n xs => .d (.sl n xs)
    | true, .fro _ _ n xs => .d (.sl n xs)
    | true, .mp ks cs => .d (.mp false ks cs)
    | _, _ => .own id
  | .sub id off n => match inB vids id, H.getD id .unborn with
    | true, .arr _ sz _ xs => (match Nat.ble (off + n * sz) xs.length with | true => .d (.sl n ((xs.drop off).take (n * sz))) | false => .sub id off n)
    | true, .fro _ sz _ xs => (match Nat.ble (off + n * sz) xs.length with | true => .d (.sl n ((xs.drop off).take (n * sz))) | false => .sub id off n)
    | _, _ => .sub id off n
  | .loc id off => match inB vids id, H.getD id .unborn with
    | true, .box xs => (match toDs xs with | some ds => .d (.ref (ds.drop off)) | none => .loc id off)
    | _, _ => .loc id off
  | .agg xs => .agg (A.views H vids xs)
  | .tup xs => .tup (A.views H vids xs)
  | .clo fn f c => .clo fn (A.views H vids f) (A.views H vids c)
  | .ab p => .ab p
  | .top => .top
  | .d x => .d x
def A.views (H : List Blk) (vids : List Nat) : List A → List A
  | [] => []
  | x :: xs => A.view H vids x :: A.views H vids xs
end
section
variable {S S' : Nat → Prop} {w : World}
theorem cell_at {b i : Nat} {cur : Array Value} {e : TypeId} {fr : Nat × Nat} (h : w.heap[b]? = some (.cells cur e fr)) : w.cell? ⟨b, i, none⟩ = cur[i]? := by simp [World.cell?, h]
theorem RowOK.reads {e sz n : Nat} {xs : List D} {v : Value} (h : RowOK S w e sz n xs v) (hS : ∀ b, S b → S' b) {g : Nat} (hg : v.ownBlock = some g) (hg' : S' g) : RepDs S' w xs (some ⟨g, 0, none⟩) 0 := by
  obtain ⟨cells, ho, hr, h1⟩ := h
  refine RepDs.of _ _ _ fun j c hj => ?_
  have hjl : j < xs.length := (List.getElem?_eq_some_iff.1 hj).1
  have hu : cells[j]? = some (cells[j]'(by rw [hr.1]; exact hjl)) := List.getElem?_eq_getElem _
  obtain ⟨hl, ⟨rfl, _⟩ | ⟨g', cap, cur, rfl, _, hh, hn, hm, hs, ht⟩⟩ := ho
  · simp [Value.ownBlock] at hg
  · simp only [Value.ownBlock, Option.some.injEq] at hg
    subst hg
    refine ⟨⟨g', 0, none⟩, _, rfl, ?_, hg', h1 _ (List.mem_of_getElem? hu), RepD.mono hS (Keeps.refl S w) _ _ (hr.2 j c _ hj hu)⟩
    rw [addr_add, hh.cell, ← Array.getElem?_toList]
    have : (cur.toList.take (n * sz))[j]? = some (cells[j]'(by rw [hr.1]; exact hjl)) := by rw [ht]; exact hu
    rw [List.getElem?_take] at this
    split at this
    · simpa using this
    · cases this
theorem RowOK.repD {e sz n : Nat} {xs : List D} {v : Value} (h : RowOK S w e sz n xs v) (hS : ∀ b, S b → S' b) (hg : ∀ g, v.ownBlock = some g → S' g) : RepD S' w (.sl n xs) v := by
  have h' := h
  obtain ⟨cells, ho, hr, h1⟩ := h
  simp only [RepD]
  have ho' := ho
  obtain ⟨hl, ⟨rfl, rfl⟩ | ⟨g', cap, cur, rfl, _, hh, hn, hm, hs, ht⟩⟩ := ho
  · have : xs = [] := List.eq_nil_of_length_eq_zero (by rw [← hr.1, hl]; simp)
    subst this
    exact ⟨none, 0, rfl, Nat.le_refl _, by simp [maxLen], fun _ => ⟨rfl, rfl⟩, by simp only [RepDs]⟩
  · exact ⟨some ⟨g', 0, none⟩, cap, rfl, hn, hm, (fun h => by cases h), h'.reads hS rfl (hg g' rfl)⟩
theorem RowOK.sub {e sz n off k : Nat} {xs : List D} {v : Value} (h : RowOK S w e sz n xs v) (hS : ∀ b, S b → S' b) {g cap : Nat} (hg : v.ownBlock = some g) (hg' : S' g) (hk : off + k * sz ≤ xs.length) (hc : k ≤ cap) (hm : cap ≤ maxLen) :
    RepD S' w (.sl k ((xs.drop off).take (k * sz))) (.slice (some ⟨g, off, none⟩) k cap) := by
  simp only [RepD]
  refine ⟨_, cap, rfl, hc, hm, (fun h => by cases h), ?_⟩
  have := (h.reads hS hg hg').drop off
  rw [addr_add, Nat.zero_add] at this
  exact this.take _
theorem toDs_reps {m : Mp} : ∀ {xs : List A} {ds : List D} {vs : List Value}, toDs xs = some ds → Reps m S w xs vs → RepsD S w ds vs
  | [], ds, vs, h, hr => by
    simp only [toDs, Option.some.injEq] at h; subst h
    simp only [Reps] at hr; subst hr
    exact ⟨rfl, fun i x v hx => by simp at hx⟩
  | .d x :: xs, ds, vs, h, hr => by
    simp only [toDs] at h
    cases ht : toDs xs with
    | none => rw [ht] at h; cases h
    | some ys =>
      rw [ht] at h; simp only [Option.some.injEq] at h; subst h
      simp only [Reps] at hr
      obtain ⟨v, r, rfl, h1, h2⟩ := hr
      have ih := toDs_reps ht h2
      refine ⟨by simp [ih.1], fun i y u hy hu => ?_⟩
      cases i with
      | zero => simp only [List.getElem?_cons_zero, Option.some.injEq] at hy hu; subst hy; subst hu; simp only [Rep] at h1; exact h1.nn
      | succ i => exact ih.2 i y u (by simpa using hy) (by simpa using hu)
  | .top :: xs, ds, vs, h, hr => by simp [toDs] at h
  | .agg _ :: xs, ds, vs, h, hr => by simp [toDs] at h
  | .tup _ :: xs, ds, vs, h, hr => by simp [toDs] at h
  | .loc _ _ :: xs, ds, vs, h, hr => by simp [toDs] at h
  | .own _ :: xs, ds, vs, h, hr => by simp [toDs] at h
  | .sub _ _ _ :: xs, ds, vs, h, hr => by simp [toDs] at h
  | .clo _ _ _ :: xs, ds, vs, h, hr => by simp [toDs] at h
  | .ab _ :: xs, ds, vs, h, hr => by simp [toDs] at h
end
/-- The blocks that are only to be read. -/
def Vof (m : Mp) (vids : List Nat) : Nat → Prop := fun b => ∃ id p, id ∈ vids ∧ m id = some p ∧ p.blk = some b
section
variable {cx : Cx} {m : Mp} {S : Nat → Prop} {w : World} {H : List Blk} {vids : List Nat}
abbrev SV' (m : Mp) (S : Nat → Prop) (vids : List Nat) : Nat → Prop := fun b => S b ∨ Vof m vids b
mutual
theorem Rep.view (h : Hold cx m S w H) : ∀ (x : A) (v : Value), Rep m S w x v → Rep m (SV' m S vids) w (x.view H vids) v
  | .top, v, hr => by simp only [A.view, Rep]
  | .ab p, v, hr => by simp only [A.view]; exact Rep.mono (Le.refl m) (fun _ h => .inl h) (Keeps.refl S w) _ _ hr
  | .d x, v, hr => by simp only [A.view]; exact Rep.mono (Le.refl m) (fun _ h => .inl h) (Keeps.refl S w) _ _ hr
  | .agg xs, v, hr => by
    simp only [A.view, Rep] at hr ⊢
    obtain ⟨vs, h1, h2⟩ := hr
    exact ⟨vs, h1, Reps.view h xs _ h2⟩
  | .tup xs, v, hr => by
    simp only [A.view, Rep] at hr ⊢
    obtain ⟨vs, h1, h2⟩ := hr
    exact ⟨vs, h1, Reps.view h xs _ h2⟩
  | .clo fn f c, v, hr => by
    simp only [A.view, Rep] at hr ⊢
    obtain ⟨vs, cs, h1, h2, h3⟩ := hr
    exact ⟨vs, cs, h1, Reps.view h f _ h2, Reps.view h c _ h3⟩
  | .loc id off, v, hr => by
    have base : Rep m (SV' m S vids) w (.loc id off) v := Rep.mono (Le.refl m) (fun _ h => .inl h) (Keeps.refl S w) _ _ hr
    simp only [A.view]
    split
    · rename_i xs hi hb
      split
      · rename_i ds hds
        have hok := h.ok id
        rw [hb] at hok
        obtain ⟨b, cells, T, h1, h2, h3, h4, h5⟩ := hok
        simp only [Rep, h1] at hr
        subst hr
        simp only [Rep, RepD]
        refine ⟨_, rfl, ?_⟩
        have hrd := toDs_reps hds h3
        have := RepDs.drop (S := SV' m S vids) (w := w) (cs := ds) (p := ⟨b, 0, none⟩) (RepDs.of _ _ _ fun j c hj => ?_) off
        · rw [addr_add, Nat.zero_add] at this; exact this
        · have hjl : j < ds.length := (List.getElem?_eq_some_iff.1 hj).1
          have hu : cells.toList[j]? = some (cells.toList[j]'(by rw [hrd.1]; exact hjl)) := List.getElem?_eq_getElem _
          refine ⟨_, _, rfl, ?_, .inr ⟨id, _, inB_iff.1 hi, h1, rfl⟩, h4 _ (List.mem_of_getElem? hu), RepD.mono (fun _ h => .inl h) (Keeps.refl S w) _ _ (hrd.2 j c _ hj hu)⟩
          rw [addr_add, cell_at h2, ← Array.getElem?_toList]
          simp
      · exact base
    · exact base
  | .own id, v, hr => by
    have base : Rep m (SV' m S vids) w (.own id) v := Rep.mono (Le.refl m) (fun _ h => .inl h) (Keeps.refl S w) _ _ hr
    simp only [A.view]
    split
    · rename_i e sz n xs hi hb
      have hok := h.ok id
      rw [hb] at hok
      obtain ⟨v', h1, h2, h3⟩ := hok
      simp only [Rep, h1] at hr
      obtain ⟨rfl, _⟩ := hr
      simp only [Rep]
      exact h2.repD (fun _ h => .inl h) fun g hg => .inr ⟨id, _, inB_iff.1 hi, h1, hg⟩
    · rename_i e sz n xs hi hb
      have hok := h.ok id
      rw [hb] at hok
      obtain ⟨v', h1, h2, h3⟩ := hok
      simp only [Rep, h1] at hr
      obtain ⟨rfl, _⟩ := hr
      simp only [Rep]
      exact h2.repD (fun _ h => .inl h) fun g hg => .inr ⟨id, _, inB_iff.1 hi, h1, hg⟩
    · rename_i ks cs hi hb
      have hok := h.ok id
      rw [hb] at hok
      obtain ⟨b, es, ck, h1, h2, h3, h4, h5, h6⟩ := hok
      simp only [Rep, h1] at hr
      subst hr
      simp only [Rep, RepD]
      exact .inr ⟨trivial, b, es, ck, rfl, .inr ⟨id, _, inB_iff.1 hi, h1, rfl⟩, h2, h3, h4, RepVs.mono (fun _ h => .inl h) (Keeps.refl S w) _ _ h5⟩
    · exact base
  | .sub id off n, v, hr => by
    have base : Rep m (SV' m S vids) w (.sub id off n) v := Rep.mono (Le.refl m) (fun _ h => .inl h) (Keeps.refl S w) _ _ hr
    simp only [A.view]
    split
    · rename_i e sz n' xs hi hb
      have hok := h.ok id
      rw [hb] at hok
      obtain ⟨v', h1, h2, h3⟩ := hok
      simp only [Rep, h1] at hr
      obtain ⟨g, cap, hg, rfl, hc, hm⟩ := hr
      split
      · rename_i hle
        simp only [Rep]
        exact h2.sub (fun _ h => .inl h) hg (.inr ⟨id, _, inB_iff.1 hi, h1, hg⟩) (by simpa [Nat.ble_eq] using hle) hc hm
      · exact base
    · rename_i e sz n' xs hi hb
      have hok := h.ok id
      rw [hb] at hok
      obtain ⟨v', h1, h2, h3⟩ := hok
      simp only [Rep, h1] at hr
      obtain ⟨g, cap, hg, rfl, hc, hm⟩ := hr
      split
      · rename_i hle
        simp only [Rep]
        exact h2.sub (fun _ h => .inl h) hg (.inr ⟨id, _, inB_iff.1 hi, h1, hg⟩) (by simpa [Nat.ble_eq] using hle) hc hm
      · exact base
    · exact base
theorem Reps.view (h : Hold cx m S w H) : ∀ (xs : List A) (vs : List Value), Reps m S w xs vs → Reps m (SV' m S vids) w (A.views H vids xs) vs
  | [], vs, hr => by simpa only [A.views, Reps] using hr
  | x :: xs, vs, hr => by
    simp only [A.views, Reps] at hr ⊢
    obtain ⟨v, r, h1, h2, h3⟩ := hr
    exact ⟨v, r, h1, Rep.view h x v h2, Reps.view h xs r h3⟩
end
end
/-- A block that nobody touches. -/
theorem BlkOK.mono {m m' : Mp} {S S' : Nat → Prop} {w w' : World} {id : Nat} {b : Blk} (h : BlkOK m S w id b) (hid : m' id = m id) (hm : Le m m') (hS : ∀ b, S b → S' b) (hk : Keeps S w w')
    (hb : ∀ p g, m id = some p → p.blk = some g → w'.heap[g]? = w.heap[g]? ∧ (S' g → S g)) : BlkOK m' S' w' id b := by
  have row : ∀ {e sz n : Nat} {xs : List D} {v : Value}, m id = some (.arr v) → RowOK S w e sz n xs v → RowOK S' w' e sz n xs v := by
    rintro e sz n xs v hv ⟨cells, ⟨h0, h1⟩, h2, h3⟩
    refine ⟨cells, ⟨h0, ?_⟩, h2.mono hS hk, h3⟩
    rcases h1 with h1 | ⟨g, cap, cur, rfl, h4, h5, h6⟩
    · exact .inl h1
    · exact .inr ⟨g, cap, cur, rfl, h4, h5.heap (hb _ g hv rfl).1, h6⟩
  cases b with
  | unborn => exact hid.trans h
  | gone => exact hid.trans h
  | box xs =>
    obtain ⟨b, cells, T, h1, h2, h3, h4, h5⟩ := h
    exact ⟨b, cells, T, hid.trans h1, by rw [(hb _ b h1 rfl).1]; exact h2, Reps.mono hm hS hk _ _ h3, h4, fun h => h5 ((hb _ b h1 rfl).2 h)⟩
  | arr e sz n xs =>
    obtain ⟨v, h1, h2, h3⟩ := h
    exact ⟨v, hid.trans h1, row h1 h2, fun g hg h => h3 g hg ((hb _ g h1 hg).2 h)⟩
  | fro e sz n xs =>
    obtain ⟨v, h1, h2, h3⟩ := h
    exact ⟨v, hid.trans h1, row h1 h2, fun g hg => hS _ (h3 g hg)⟩
  | rows e sz n xs kq aq =>
    obtain ⟨v, h1, ⟨cells, ⟨h0, h2⟩, h4, h5⟩, h3⟩ := h
    refine ⟨v, hid.trans h1, ⟨cells, ⟨h0, ?_⟩, Reps.mono hm hS hk _ _ h4, h5⟩, fun g hg h => h3 g hg ((hb _ g h1 hg).2 h)⟩
    rcases h2 with h2 | ⟨g, cap, cur, rfl, h6, h7, h8⟩
    · exact .inl h2
    · exact .inr ⟨g, cap, cur, rfl, h6, h7.heap (hb _ g h1 rfl).1, h8⟩
  | mp ks cs =>
    obtain ⟨b, es, ck, h1, h2, h3, h4, h5, h6⟩ := h
    exact ⟨b, es, ck, hid.trans h1, by rw [(hb _ b h1 rfl).1]; exact h2, h3, h4, RepVs.mono hS hk _ _ h5, fun h => h6 ((hb _ b h1 rfl).2 h)⟩
end Go.Proofs.Ytelhmhmgaaebpaa.K

namespace Go.Proofs.Ytelhmhmgaaebpaa.K
open Go.RowKit

def posOf : List Nat → Nat → Option Nat
  | [], _ => none
  | x :: l, k => if k = x then some 0 else (posOf l k).map (· + 1)
theorem posOf_get : ∀ {ids : List Nat} {k j : Nat}, posOf ids k = some j → ids[j]? = some k
  | [], k, j, h => by simp [posOf] at h
  | x :: l, k, j, h => by
    rw [posOf] at h
    split at h
    · rename_i hk; simp only [Option.some.injEq] at h; subst h; simp [hk]
    · cases hp : posOf l k with
      | none => rw [hp] at h; cases h
      | some i => rw [hp] at h; simp only [Option.map_some, Option.some.injEq] at h; subst h; simpa using posOf_get hp
theorem posOf_none : ∀ {ids : List Nat} {k : Nat}, posOf ids k = none → k ∉ ids
  | [], k, h => by simp
  | x :: l, k, h => by
    rw [posOf] at h
    split at h
    · cases h
    · rename_i hk
      have : posOf l k = none := by simpa using h
      simp only [List.mem_cons, not_or]; exact ⟨hk, posOf_none this⟩
theorem posOf_of {ids : List Nat} {k j : Nat} (hn : ids.Nodup) (h : ids[j]? = some k) : posOf ids k = some j := by
  cases hp : posOf ids k with
  | none => exact absurd (List.mem_of_getElem? h) (posOf_none hp)
  | some i =>
    have := posOf_get hp
    rw [(List.getElem?_inj (List.getElem?_eq_some_iff.1 this).1 hn).1 (this.trans h.symm)]
def Blk.notFro : Blk → Bool
  | .fro .. => false
  | _ => true
def Blk.frz : Blk → Blk
  | .arr e sz n xs => .fro e sz n xs
  | .box _ => .gone
  | .rows .. => .gone
  | .mp .. => .gone
  | b => b
def D.Plain : D → Prop
  | .lit _ => True
  | .nil => True
  | .sl _ [] => True
  | _ => False
mutual
def A.Plain : A → Prop
  | .d x => x.Plain
  | .agg xs => A.Plains xs
  | .tup xs => A.Plains xs
  | .clo _ f c => A.Plains f ∧ A.Plains c
  | _ => True
def A.Plains : List A → Prop
  | [] => True
  | x :: xs => A.Plain x ∧ A.Plains xs
end
def Blk.Plain : Blk → Prop
  | .box xs => A.Plains xs
  | .arr _ _ _ xs => ∀ x ∈ xs, x.Plain
  | .fro .. => False
  | .rows .. => False
  | .mp .. => False
  | _ => True
section
variable {m : Mp} {S S' : Nat → Prop} {w w' : World}
theorem RepD.plain {x : D} {v : Value} (hp : x.Plain) (h : RepD S w x v) : RepD S' w' x v := by
  cases x with
  | lit u => simpa only [RepD] using h
  | nil => simpa only [RepD] using h
  | sl n cs =>
    cases cs with
    | nil => simpa only [RepD, RepDs] using h
    | cons c cs => exact hp.elim
  | ref _ => exact hp.elim
  | slc _ _ => exact hp.elim
  | mp _ _ _ => exact hp.elim
mutual
theorem Rep.plain : ∀ (x : A) (v : Value), x.Plain → Rep m S w x v → Rep m S' w' x v
  | .top, v, hp, h => by simp only [Rep]
  | .ab p, v, hp, h => by simpa only [Rep] using h
  | .d x, v, hp, h => by simp only [Rep] at h ⊢; exact RepD.plain hp h
  | .agg xs, v, hp, h => by
    simp only [Rep] at h ⊢
    obtain ⟨vs, h1, h2⟩ := h
    exact ⟨vs, h1, Reps.plain xs _ hp h2⟩
  | .tup xs, v, hp, h => by
    simp only [Rep] at h ⊢
    obtain ⟨vs, h1, h2⟩ := h
    exact ⟨vs, h1, Reps.plain xs _ hp h2⟩
  | .clo fn f c, v, hp, h => by
    simp only [Rep] at h ⊢
    obtain ⟨vs, cs, h1, h2, h3⟩ := h
    exact ⟨vs, cs, h1, Reps.plain f _ hp.1 h2, Reps.plain c _ hp.2 h3⟩
  | .loc id off, v, hp, h => by simpa only [Rep] using h
  | .own id, v, hp, h => by simpa only [Rep] using h
  | .sub id off n, v, hp, h => by simpa only [Rep] using h
theorem Reps.plain : ∀ (xs : List A) (vs : List Value), A.Plains xs → Reps m S w xs vs → Reps m S' w' xs vs
  | [], vs, hp, h => by simpa only [Reps] using h
  | x :: xs, vs, hp, h => by
    simp only [Reps] at h ⊢
    obtain ⟨v, r, h1, h2, h3⟩ := h
    exact ⟨v, r, h1, Rep.plain x v hp.1 h2, Reps.plain xs r hp.2 h3⟩
end
theorem BlkOK.plain {id : Nat} {b : Blk} (hp : b.Plain) (hS : ∀ b, S' b → S b) (h : BlkOK m S w id b) : BlkOK m S' w id b := by
  cases b with
  | unborn => exact h
  | gone => exact h
  | box xs =>
    obtain ⟨b, cells, T, h1, h2, h3, h4, h5⟩ := h
    exact ⟨b, cells, T, h1, h2, Reps.plain xs _ hp h3, h4, fun h => h5 (hS _ h)⟩
  | arr e sz n xs =>
    obtain ⟨v, h1, ⟨cells, h2, h3, h4⟩, h5⟩ := h
    exact ⟨v, h1, ⟨cells, h2, ⟨h3.1, fun i x u hx hu => RepD.plain (hp x (List.mem_of_getElem? hx)) (h3.2 i x u hx hu)⟩, h4⟩, fun g hg h => h5 g hg (hS _ h)⟩
  | fro e sz n xs => exact hp.elim
  | rows e sz n xs kq aq => exact hp.elim
  | mp ks cs => exact hp.elim
end

/-- What stands behind a call that has written the blocks 'ids'. -/
theorem merge {cx : Cx} {m : Mp} {S : Nat → Prop} {w : World} {H : List Blk} (h : Hold cx m S w H) {pids nids vids : List Nat} {pre post post' : List Blk} (hn : (pids ++ nids).Nodup) (hpre : renH pids pre H)
    (hpost : (pids ++ nids).length = post.length ∧ ∀ (j : Nat) (b : Blk), post[j]? = some b → ∃ b', post'[j]? = some b' ∧ b.ren (pids ++ nids) = some b')
    (hnf : ∀ b ∈ post, b.notFro = true) (hnew : ∀ id ∈ nids, H.getD id .unborn = .unborn) (hdis : ∀ id ∈ vids, id ∉ pids ++ nids) {m1 : Mp} {S1 : Nat → Prop} {w' : World} {hg : GW (SV' m S vids) w} {hz : ∀ b, SV' m S vids b → b < w.heap.size}
    (h1 : Hold (cxOf (via pids m) (SV' m S vids) w hg hz) m1 S1 w' post) :
    ∃ m2, via (pids ++ nids) m2 = m1 ∧ Le m m2 ∧ Keeps S w w' ∧ (∀ k, k ∉ pids ++ nids → m2 k = m k) ∧ (∀ id p g, id ∉ pids ++ nids → id ∉ vids → m id = some p → p.blk = some g → w'.heap[g]? = w.heap[g]? ∧ (S1 g → S g)) ∧
      (∀ b, Vof m vids b → w'.heap[b]? = w.heap[b]? ∧ S1 b) ∧
      ∀ (S2 : Nat → Prop) (H2 : List Blk), (∀ b, S b → S2 b) → (∀ b, S2 b → S1 b) → (∀ j k, (pids ++ nids)[j]? = some k → BlkOK m1 S2 w' j (post.getD j .unborn) ∧ H2[k]?.getD .unborn = (post'[j]?).getD .unborn) →
        (∀ k ∈ vids, BlkOK m2 S2 w' k (H2.getD k .unborn)) → (∀ k, k ∉ pids ++ nids → k ∉ vids → H2.getD k .unborn = H.getD k .unborn) → Hold cx m2 S2 w' H2 := by
  have hkeep : ∀ b, b < w.heap.size → ¬ P0of (via pids m) (SV' m S vids) b → w'.heap[b]? = w.heap[b]? := h1.old
  have notP0S : ∀ b, SV' m S vids b → ¬ P0of (via pids m) (SV' m S vids) b := fun b hb ⟨_, _, _, _, hnb⟩ => hnb hb
  have hK : Keeps S w w' := fun b hb => hkeep b (h.s b hb).2 (notP0S b (.inl hb))
  have hVk : ∀ b, Vof m vids b → w'.heap[b]? = w.heap[b]? ∧ S1 b := fun b hb => by
    obtain ⟨id, p, h2, h3, h4⟩ := hb
    exact ⟨hkeep b (h.pl id p b h3 h4).2 (notP0S b (.inr ⟨id, p, h2, h3, h4⟩)), h1.s0 b (.inr ⟨id, p, h2, h3, h4⟩)⟩
  have hvia : via (pids ++ nids) (fun k => match posOf (pids ++ nids) k with | some j => m1 j | none => m k) = m1 := by
    funext j
    unfold via
    rcases Nat.lt_or_ge j (pids ++ nids).length with hj | hj
    · rw [List.getElem?_eq_getElem hj, Option.bind_some, posOf_of hn (List.getElem?_eq_getElem hj)]
    · rw [List.getElem?_eq_none hj]
      have := h1.ok j
      rw [getD_none (by rw [← hpost.1]; exact hj)] at this
      exact this.symm
  have pget : ∀ j, j < pids.length → (pids ++ nids)[j]? = pids[j]? := fun j hj => List.getElem?_append_left hj
  have hLe : Le m (fun k => match posOf (pids ++ nids) k with | some j => m1 j | none => m k) := by
    intro id p hp
    cases hpos : posOf (pids ++ nids) id with
    | none => simp only [hpos]; exact .inl hp
    | some j =>
      simp only [hpos]
      have hj := posOf_get hpos
      have hjp : j < pids.length := by
        rcases Nat.lt_or_ge j pids.length with hj' | hj'
        · exact hj'
        · rw [List.getElem?_append_right hj'] at hj
          have := h.ok id
          rw [hnew id (List.mem_of_getElem? hj)] at this
          simp only [BlkOK] at this; rw [this] at hp; cases hp
      rw [pget j hjp] at hj
      exact h1.le j p (by simp only [via, hj, Option.bind_some]; exact hp)
  have hother : ∀ k, k ∉ pids ++ nids → (fun k => match posOf (pids ++ nids) k with | some j => m1 j | none => m k) k = m k := fun k hk => by
    cases hpos : posOf (pids ++ nids) k with
    | none => simp only [hpos]
    | some j => exact absurd (List.mem_of_getElem? (posOf_get hpos)) hk
  have P0k : ∀ b, P0of (via pids m) (SV' m S vids) b → ∃ k p, k ∈ pids ∧ m k = some p ∧ p.blk = some b := fun b ⟨j, p, h2, h3, _⟩ => by
    obtain ⟨k, h4, h5⟩ := via_some h2
    exact ⟨k, p, List.mem_of_getElem? h4, h5, h3⟩
  have hfree : ∀ id p g, id ∉ pids ++ nids → id ∉ vids → m id = some p → p.blk = some g → w'.heap[g]? = w.heap[g]? ∧ (S1 g → S g) := by
    intro id p g h2 h3 h4 h5
    have hnP : ¬ P0of (via pids m) (SV' m S vids) g := fun hP => by
      obtain ⟨k, q, h6, h7, h8⟩ := P0k g hP
      exact h.apart k id q p g (fun e => h2 (by rw [← e]; simp [h6])) h7 h4 h8 h5
    refine ⟨hkeep g (h.pl id p g h4 h5).2 hnP, fun hS1 => ?_⟩
    rcases (h1.s g hS1).1 with (h6 | ⟨k, q, h6, h7, h8⟩) | h6 | h6
    · exact h6
    · exact absurd h5 (h.apart k id q p g (fun e => h3 (e ▸ h6)) h7 h4 h8)
    · exact absurd h6 hnP
    · have := (h.pl id p g h4 h5).2
      simp only at h6; omega
  refine ⟨_, hvia, hLe, hK, hother, hfree, hVk, fun S2 H2 hS hS' hids hv ho => ?_⟩
  have inOut : ∀ b, (cx.S0 b ∨ cx.P0 b ∨ cx.w0.heap.size ≤ b) ∨ (∃ k p, m k = some p ∧ p.blk = some b) ∨ w.heap.size ≤ b → cx.S0 b ∨ cx.P0 b ∨ cx.w0.heap.size ≤ b := by
    rintro b (hb | ⟨k, p, h2, h3⟩ | hb)
    · exact hb
    · rcases (h.pl k p b h2 h3).1 with h4 | h4 | h4
      · exact .inr (.inl h4)
      · exact .inl h4
      · exact .inr (.inr h4)
    · have := h.size; exact .inr (.inr (by omega))
  have s1 : ∀ b, S1 b → cx.S0 b ∨ cx.P0 b ∨ cx.w0.heap.size ≤ b := fun b hb => by
    rcases (h1.s b hb).1 with (h6 | ⟨k, q, h6, h7, h8⟩) | h6 | h6
    · exact (h.s b h6).1
    · exact inOut b (.inr (.inl ⟨k, q, h7, h8⟩))
    · obtain ⟨k, q, _, h7, h8⟩ := P0k b h6
      exact inOut b (.inr (.inl ⟨k, q, h7, h8⟩))
    · exact inOut b (.inr (.inr h6))
  have oldm : ∀ {id p g}, m1 id = some p → p.blk = some g → (cx.S0 g ∨ cx.P0 g ∨ cx.w0.heap.size ≤ g) ∧ g < w'.heap.size := fun {id p g} h2 h3 => by
    have h4 := h1.pl id p g h2 h3
    refine ⟨?_, h4.2⟩
    rcases h4.1 with h6 | h6 | h6
    · obtain ⟨k, q, _, h7, h8⟩ := P0k g h6
      exact inOut g (.inr (.inl ⟨k, q, h7, h8⟩))
    · exact s1 g (h1.s0 g h6)
    · exact inOut g (.inr (.inr h6))
  -- a block that the call has written lies apart from every other
  have mixed : ∀ k j p p' b, k ∉ pids ++ nids → m k = some p → m1 j = some p' → p.blk = some b → p'.blk ≠ some b := by
    intro k j p p' b hk hp hp' hb hb'
    have hlt := (h.pl k p b hp hb).2
    have hjl : j < post.length := by
      rcases Nat.lt_or_ge j post.length with hj | hj
      · exact hj
      · have := h1.ok j; rw [getD_none hj] at this; simp only [BlkOK] at this; rw [this] at hp'; cases hp'
    have hok := h1.ok j
    have hmem : post.getD j .unborn ∈ post := List.mem_of_getElem? (getD_some hjl)
    have hnfj := hnf _ hmem
    have hnS : ¬ S1 b := by
      cases hpj : post.getD j .unborn with
      | unborn => rw [hpj] at hok; simp only [BlkOK] at hok; rw [hok] at hp'; cases hp'
      | gone => rw [hpj] at hok; simp only [BlkOK] at hok; rw [hok] at hp'; cases hp'; cases hb'
      | box xs =>
        rw [hpj] at hok
        obtain ⟨b0, cells, T, h2, _, _, _, h3⟩ := hok
        rw [h2] at hp'; cases hp'; cases hb'; exact h3
      | arr e sz n xs =>
        rw [hpj] at hok
        obtain ⟨v, h2, _, h3⟩ := hok
        rw [h2] at hp'; cases hp'; exact h3 b hb'
      | fro e sz n xs => rw [hpj] at hnfj; cases hnfj
      | rows e sz n xs kq aq =>
        rw [hpj] at hok
        obtain ⟨v, h2, _, h3⟩ := hok
        rw [h2] at hp'; cases hp'; exact h3 b hb'
      | mp ks cs =>
        rw [hpj] at hok
        obtain ⟨b0, es, ck, h2, _, _, _, _, h3⟩ := hok
        rw [h2] at hp'; cases hp'; cases hb'; exact h3
    rcases (h1.pl j p' b hp' hb').1 with h6 | h6 | h6
    · obtain ⟨k', q, h7, h8, h9⟩ := P0k b h6
      exact h.apart k' k q p b (fun e => hk (by rw [← e]; simp [h7])) h8 hp h9 hb
    · exact hnS (h1.s0 b h6)
    · simp only at h6; omega
  refine ⟨h1.os.trans h.os, h1.tape.trans h.tape, h1.output.trans h.output, Nat.le_trans h.size h1.size, fun b hb hP => ?_, fun b hb => hS b (h.s0 b hb), fun b hb => ⟨s1 b (hS' b hb), (h1.s b (hS' b hb)).2⟩, fun id p b hp hb => ?_, fun id id' p p' b hne hp hp' hb => ?_, fun k => ?_, h.le.trans hLe⟩
  · rw [hkeep b (Nat.lt_of_lt_of_le hb h.size) (fun hP' => ?_), h.old b hb hP]
    obtain ⟨j, p, h2, h3, h4⟩ := hP'
    obtain ⟨k, _, h5⟩ := via_some h2
    rcases (h.pl k p b h5 h3).1 with h6 | h6 | h6
    · exact hP h6
    · exact h4 (.inl (h.s0 b h6))
    · omega
  · cases hpos : posOf (pids ++ nids) id with
    | none => rw [hpos] at hp; exact ⟨inOr (h.pl id p b hp hb).1, Nat.lt_of_lt_of_le (h.pl id p b hp hb).2 h1.size⟩
    | some j =>
      rw [hpos] at hp
      obtain ⟨h2, h3⟩ := oldm hp hb
      exact ⟨inOr' h2, h3⟩
  · cases hpos : posOf (pids ++ nids) id with
    | none =>
      rw [hpos] at hp
      cases hpos' : posOf (pids ++ nids) id' with
      | none => rw [hpos'] at hp'; exact h.apart id id' p p' b hne hp hp' hb
      | some j' => rw [hpos'] at hp'; exact mixed id j' p p' b (posOf_none hpos) hp hp' hb
    | some j =>
      rw [hpos] at hp
      cases hpos' : posOf (pids ++ nids) id' with
      | none => rw [hpos'] at hp'; exact fun hb' => mixed id' j p' p b (posOf_none hpos') hp' hp hb' hb
      | some j' =>
        rw [hpos'] at hp'
        refine h1.apart j j' p p' b (fun e => hne ?_) hp hp' hb
        subst e
        have h2 := posOf_get hpos; rw [posOf_get hpos'] at h2
        exact (Option.some.inj h2).symm
  · by_cases hk : k ∈ pids ++ nids
    · obtain ⟨j, hj⟩ := List.getElem?_of_mem hk
      obtain ⟨h2, h3⟩ := hids j k hj
      rw [← hvia] at h2
      have hjl : j < post.length := by rw [← hpost.1]; exact (List.getElem?_eq_some_iff.1 hj).1
      obtain ⟨b', h4, h5⟩ := hpost.2 j _ (getD_some hjl)
      rw [List.getD_eq_getElem?_getD, h3, h4, Option.getD_some]
      exact (BlkOK.via hj h5).1 h2
    · by_cases hkv : k ∈ vids
      · exact hv k hkv
      · rw [ho k hk hkv]
        exact (h.ok k).mono (hother k hk) hLe hS hK fun p g hp hg => ⟨(hfree k p g hk hkv hp hg).1, fun h2 => (hfree k p g hk hkv hp hg).2 (hS' g h2)⟩
where
  inOr {A B C : Prop} (h : A ∨ B ∨ C) : A ∨ B ∨ C := h
  inOr' {A B C : Prop} (h : B ∨ A ∨ C) : A ∨ B ∨ C := by
    rcases h with h | h | h
    · exact .inr (.inl h)
    · exact .inl h
    · exact .inr (.inr h)
end Go.Proofs.Ytelhmhmgaaebpaa.K

namespace Go.Proofs.Ytelhmhmgaaebpaa.K
open Go.RowKit

def locOf : Operand → List Loc
  | .tmp t => [.tmp t]
  | _ => []
def locsOf : List Operand → List Loc
  | [] => []
  | x :: xs => locOf x ++ locsOf xs
def blks (ids : List Nat) : List Loc := ids.map .blk
theorem opA_agree {st st' : St} {x : Operand} (h : ∀ l ∈ locOf x, st'.at l = st.at l) : opA st' x = opA st x := by
  cases x with
  | tmp t => have := h (.tmp t) (by simp [locOf]); simpa [St.at, opA] using this
  | _ => rfl
theorem opAs_agree {st st' : St} : ∀ {xs : List Operand}, (∀ l ∈ locsOf xs, st'.at l = st.at l) → xs.map (opA st') = xs.map (opA st)
  | [], _ => rfl
  | x :: xs, h => by
    rw [List.map_cons, List.map_cons, opA_agree fun l hl => h l (by simp [locsOf, hl]), opAs_agree fun l hl => h l (by simp [locsOf, hl])]
theorem blk_agree {st st' : St} {ids : List Nat} (h : ∀ l ∈ blks ids, st'.at l = st.at l) {id : Nat} (hid : id ∈ ids) : st'.H.getD id .unborn = st.H.getD id .unborn := by
  have := h (.blk id) (by simp [blks, hid])
  simpa [St.at] using this
mutual
theorem view_congr {H H' : List Blk} {vids : List Nat} (h : ∀ id ∈ vids, H'.getD id .unborn = H.getD id .unborn) : ∀ x : A, x.view H' vids = x.view H vids
  | .top => rfl
  | .ab p => rfl
  | .d x => rfl
  | .agg xs => by simp only [A.view, views_congr h xs]
  | .tup xs => by simp only [A.view, views_congr h xs]
  | .clo fn f c => by simp only [A.view, views_congr h f, views_congr h c]
  | .own id => by
    simp only [A.view]
    cases hi : inB vids id with
    | false => rfl
    | true => rw [h id (inB_iff.1 hi)]
  | .loc id off => by
    simp only [A.view]
    cases hi : inB vids id with
    | false => rfl
    | true => rw [h id (inB_iff.1 hi)]
  | .sub id off n => by
    simp only [A.view]
    cases hi : inB vids id with
    | false => rfl
    | true => rw [h id (inB_iff.1 hi)]
theorem views_congr {H H' : List Blk} {vids : List Nat} (h : ∀ id ∈ vids, H'.getD id .unborn = H.getD id .unborn) : ∀ xs : List A, A.views H' vids xs = A.views H vids xs
  | [] => rfl
  | x :: xs => by simp only [A.views, view_congr h x, views_congr h xs]
end
theorem renH.congr {ids : List Nat} {post H H' : List Blk} (hr : renH ids post H) (h : ∀ id ∈ ids, H'.getD id .unborn = H.getD id .unborn) : renH ids post H' :=
  ⟨hr.1, fun j k hk => by rw [h k (List.mem_of_getElem? hk)]; exact hr.2 j k hk⟩
theorem runs_mono {P : Program} {R R' : Value → World → Prop} {r : Result Next} (h : RunsUpon P R r) (k : ∀ v w, R v w → R' v w) : RunsUpon P R' r := by
  cases r with
  | ok n w =>
    cases n <;> simp only [RunsUpon] at h ⊢
    case value v => exact k _ _ h
    case skip => exact k _ _ h
    case enter f args => exact Calls.mono h fun e w' ⟨v, he, hr⟩ => ⟨v, he, k _ _ hr⟩
    case row row args => exact h.mono k
  | halt x w => cases x <;> simp only [RunsUpon] at h

/-- Arguments as a contract has them: nil as nil, or as an empty slice. -/
def nnL : List A → List A → Prop
  | [], [] => True
  | z :: zs, y :: ys => (z = y ∨ z = y.nn) ∧ nnL zs ys
  | _, _ => False
theorem nnL_reps {m : Mp} {S : Nat → Prop} {w : World} : ∀ {zs ys : List A} {vs : List Value}, nnL zs ys → Reps m S w ys vs → Reps m S w zs vs
  | [], [], vs, _, h => h
  | z :: zs, y :: ys, vs, hz, h => by
    simp only [Reps] at h ⊢
    obtain ⟨v, r, rfl, h1, h2⟩ := h
    refine ⟨v, r, rfl, ?_, nnL_reps hz.2 h2⟩
    rcases hz.1 with rfl | rfl
    · exact h1
    · exact Rep.nn _ _ h1
  | [], _ :: _, _, hz, _ => hz.elim
  | _ :: _, [], _, hz, _ => hz.elim
/-- A call as a caller sees it: the contract's blocks are pids (handed over to be written) and nids (new ones); vids may be read. -/
structure CallOK (P : Program) (st : St) (o : Oper) (callee : Operand) (args : List Operand) (f : FuncId) (first cap xs : List A) (pre : List Blk) (res : A) (post : List Blk) (pids nids vids : List Nat) (val : A) (post' : List Blk) : Prop where
  op : ∃ ats, o.op = .call ⟨.value callee, args.toArray, ats⟩
  fn : opA st callee = .clo (.func f) first cap
  enter : ∀ args w, (callFunc f args).run P w = .ok (.enter f args) w
  con : GCall P f xs pre res post
  hargs : ∃ zs, A.rens pids xs = some zs ∧ nnL zs (A.views st.H vids (first ++ args.map (opA st) ++ cap))
  hpre : renH pids pre st.H
  nodup : (pids ++ nids).Nodup
  hpost : (pids ++ nids).length = post.length ∧ ∀ (j : Nat) (b : Blk), post[j]? = some b → ∃ b', post'[j]? = some b' ∧ b.ren (pids ++ nids) = some b'
  hlen : post'.length = post.length
  nofro : ∀ b ∈ post, b.notFro = true
  new : ∀ id ∈ nids, st.H.getD id .unborn = .unborn
  dis : ∀ id ∈ vids, id ∉ pids ++ nids
  hres : res.ren (pids ++ nids) = some val
section
variable {P : Program} {st : St} {o : Oper} {callee : Operand} {args : List Operand} {f : FuncId} {first cap xs : List A} {pre : List Blk} {res : A} {post : List Blk} {pids nids vids : List Nat} {val : A} {post' : List Blk}
def callR (callee : Operand) (args : List Operand) (pids nids vids : List Nat) : List Loc := locsOf (callee :: args) ++ (blks (pids ++ nids) ++ blks vids)
theorem CallOK.move (h : CallOK P st o callee args f first cap xs pre res post pids nids vids val post') {st' : St} (hl : ∀ l ∈ callR callee args pids nids vids, st'.at l = st.at l) :
    CallOK P st' o callee args f first cap xs pre res post pids nids vids val post' := by
  have h1 : ∀ l ∈ locsOf (callee :: args), st'.at l = st.at l := fun l hm => hl l (by simp [callR, hm])
  have h2 : ∀ l ∈ blks (pids ++ nids), st'.at l = st.at l := fun l hm => hl l (by simp [callR, hm])
  have h3 : ∀ l ∈ blks vids, st'.at l = st.at l := fun l hm => hl l (by simp [callR, hm])
  have e : args.map (opA st') = args.map (opA st) := opAs_agree fun l hm => h1 l (by simp [locsOf, hm])
  exact ⟨h.op, (opA_agree fun l hm => h1 l (by simp [locsOf, hm])).trans h.fn, h.enter, h.con, by rw [e, views_congr fun id hid => blk_agree h3 hid]; exact h.hargs,
    h.hpre.congr fun id hid => blk_agree h2 (by simp [hid]), h.nodup, h.hpost, h.hlen, h.nofro, fun id hid => (blk_agree h2 (by simp [hid])).trans (h.new id hid), h.dis, h.hres⟩
theorem call_core {cx : Cx} {m : Mp} {S : Nat → Prop} {w : World} {H : List Blk} (hH : Hold cx m S w H) (con : GCall P f xs pre res post) {ys : List A} {vs : List Value} (hargs : Reps m (SV' m S vids) w ys vs) (hr : A.rens pids xs = some ys)
    (hpre : renH pids pre H) (hn : (pids ++ nids).Nodup) (hdis : ∀ id ∈ vids, id ∉ pids ++ nids) :
    Calls P f vs.toArray w (fun e w' => ∃ v, e = .returned v ∧ ∃ hg hz m1 S1, Hold (cxOf (via pids m) (SV' m S vids) w hg hz) m1 S1 w' post ∧ Rep m1 S1 w' res v) := by
  have hz : ∀ b, SV' m S vids b → b < w.heap.size := fun b hb => by
    rcases hb with hb | ⟨k, p, _, h2, h3⟩
    · exact (hH.s b hb).2
    · exact (hH.pl k p b h2 h3).2
  have hg : GW (SV' m S vids) w := hH.gw.mono (fun _ h => .inl h) (Keeps.refl S w)
  have hcall := con (via pids m) (SV' m S vids) w vs hg hz ?_ ((Reps.via xs _ _ hr).2 hargs)
  · exact Calls.mono hcall fun e w' ⟨v, m1, S1, he, h1, h2⟩ => ⟨v, he, hg, hz, m1, S1, h1, h2⟩
  · have hpn : pids.Nodup := (List.nodup_append.1 hn).1
    refine ⟨rfl, rfl, rfl, Nat.le_refl _, fun _ _ _ => rfl, fun _ h => h, fun b hb => ⟨.inl hb, ?_⟩, fun id p b hp hb => ?_, fun id id' p p' b hne hp hp' hb => ?_, fun j => ?_, Le.refl _⟩
    · rcases hb with hb | ⟨k, p, _, h2, h3⟩
      · exact (hH.s b hb).2
      · exact (hH.pl k p b h2 h3).2
    · obtain ⟨k, _, hk⟩ := via_some hp
      refine ⟨?_, (hH.pl k p b hk hb).2⟩
      by_cases hSb : SV' m S vids b
      · exact .inr (.inl hSb)
      · exact .inl ⟨id, p, hp, hb, hSb⟩
    · obtain ⟨k, h1, hk⟩ := via_some hp
      obtain ⟨k', h1', hk'⟩ := via_some hp'
      refine hH.apart k k' p p' b (fun he => hne ?_) hk hk' hb
      subst he
      exact (List.getElem?_inj (List.getElem?_eq_some_iff.1 h1).1 hpn).1 (h1.trans h1'.symm)
    · rcases Nat.lt_or_ge j pids.length with hj | hj
      · have hk : pids[j]? = some pids[j] := List.getElem?_eq_getElem hj
        refine (BlkOK.via hk (hpre.2 j _ hk)).2 ((hH.ok _).mono rfl (Le.refl m) (fun _ h => .inl h) (Keeps.refl S w) fun p g hp hg => ⟨rfl, ?_⟩)
        rintro (hb | ⟨k, q, h2, h3, h4⟩)
        · exact hb
        · exact absurd hg (hH.apart k _ q p g (fun e => hdis k h2 (by rw [e]; simp)) h3 hp h4)
      · rw [getD_none (by rw [← hpre.1]; exact hj)]
        simp only [BlkOK, K.via, List.getElem?_eq_none hj, Option.bind_none]
/-- What the operation does: it enters the function, with what its slots hold. -/
theorem CallOK.enters (h : CallOK P st o callee args f first cap xs pre res post pids nids vids val post') {cx : Cx} {m : Mp} {S : Nat → Prop} {a : Act} {w : World} (hs : Sim cx m S a w st) :
    ∃ vs : List Value, (execOp a.eval o).run P w = .ok (.enter f vs.toArray) w ∧ Reps m S w (first ++ args.map (opA st) ++ cap) vs := by
  obtain ⟨ats, hop⟩ := h.op
  have hfn := hs.op callee
  rw [h.fn] at hfn
  simp only [Rep] at hfn
  obtain ⟨vf, vc, hev, hrf, hrc⟩ := hfn
  have e : (execOp a.eval o).run P w = .ok (.enter f (vf ++ args.toArray.map a.eval ++ vc)) w := by
    simp [execOp, hop, resolve, hev, Deferred.ofValue, invoke, h.enter]
  refine ⟨vf.toList ++ args.map a.eval ++ vc.toList, by rw [e]; congr 2; apply Array.ext'; simp, ?_⟩
  refine (hrf.append (Reps.of (by simp) fun i x v hx hv => ?_)).append hrc
  rw [List.getElem?_map] at hx hv
  cases hi : args[i]? with
  | none => rw [hi] at hx; cases hx
  | some y => rw [hi] at hx hv; cases hx; cases hv; exact hs.op y
theorem CallOK.run (h : CallOK P st o callee args f first cap xs pre res post pids nids vids val post') {cx : Cx} {m : Mp} {S : Nat → Prop} {a : Act} {w : World} (hs : Sim cx m S a w st) :
    RunsUpon P (fun v w' => ∃ hg hz m1 S1, Hold (cxOf (via pids m) (SV' m S vids) w hg hz) m1 S1 w' post ∧ Rep m1 S1 w' res v) ((execOp a.eval o).run P w) := by
  obtain ⟨vs, e, hargs⟩ := h.enters hs
  rw [e]
  exact call_core (nids := nids) hs.hold h.con (nnL_reps h.hargs.choose_spec.2 (Reps.view hs.hold _ _ hargs)) h.hargs.choose_spec.1 h.hpre h.nodup h.dis
/-- Own blocks are frozen. -/
def fzm (m : Mp) (H : List Blk) (vids : List Nat) : Mp := fun k => match inB vids k, H.getD k .unborn with | true, .box _ => some .gone | true, .rows .. => some .gone | true, .mp .. => some .gone | _, _ => m k
theorem fzm_le {cx : Cx} {m : Mp} {S : Nat → Prop} {w : World} {H : List Blk} (h : Hold cx m S w H) (vids : List Nat) : Le m (fzm m H vids) := by
  intro id p hp
  unfold fzm
  split
  · exact .inr rfl
  · exact .inr rfl
  · exact .inr rfl
  · exact .inl hp
theorem fzm_some {m : Mp} {H : List Blk} {vids : List Nat} {id : Nat} {p : Pl} {b : Nat} (h : fzm m H vids id = some p) (hb : p.blk = some b) : m id = some p := by
  unfold fzm at h
  split at h
  · cases h; cases hb
  · cases h; cases hb
  · cases h; cases hb
  · exact h
theorem Hold.freeze {cx : Cx} {m : Mp} {S : Nat → Prop} {w : World} {H H' : List Blk} {vids : List Nat} (h : Hold cx m S w H) (hH : ∀ k, H'.getD k .unborn = if k ∈ vids then (H.getD k .unborn).frz else H.getD k .unborn) : Hold cx (fzm m H vids) (SV' m S vids) w H' := by
  refine ⟨h.os, h.tape, h.output, h.size, h.old, fun b hb => .inl (h.s0 b hb), fun b hb => ?_, fun id p b hp hb => h.pl id p b (fzm_some hp hb) hb, fun id id' p p' b hne hp hp' hb => ?_, fun k => ?_, h.le.trans (fzm_le h vids)⟩
  · rcases hb with hb | ⟨k, p, _, h2, h3⟩
    · exact h.s b hb
    · refine ⟨?_, (h.pl k p b h2 h3).2⟩
      rcases (h.pl k p b h2 h3).1 with h4 | h4 | h4
      · exact .inr (.inl h4)
      · exact .inl h4
      · exact .inr (.inr h4)
  · intro hb'
    exact h.apart id id' p p' b hne (fzm_some hp hb) (fzm_some hp' hb') hb hb'
  · rw [hH]
    have hk := h.ok k
    by_cases hv : k ∈ vids
    · rw [if_pos hv]
      have hi : inB vids k = true := inB_iff.2 hv
      cases hb : H.getD k .unborn with
      | unborn => rw [hb] at hk; simp only [Blk.frz, BlkOK, fzm, hi, hb]; exact hk
      | gone => rw [hb] at hk; simp only [Blk.frz, BlkOK, fzm, hi, hb]; exact hk
      | box xs => simp only [Blk.frz, BlkOK, fzm, hi, hb]
      | arr e sz n xs =>
        rw [hb] at hk
        obtain ⟨v, h1, ⟨cells, h2, h3, h4⟩, h5⟩ := hk
        simp only [Blk.frz, BlkOK, fzm, hi, hb]
        exact ⟨v, h1, ⟨cells, h2, h3.mono (fun _ h => .inl h) (Keeps.refl S w), h4⟩, fun g hg => .inr ⟨k, _, hv, h1, hg⟩⟩
      | fro e sz n xs =>
        rw [hb] at hk
        obtain ⟨v, h1, ⟨cells, h2, h3, h4⟩, h5⟩ := hk
        simp only [Blk.frz, BlkOK, fzm, hi, hb]
        exact ⟨v, h1, ⟨cells, h2, h3.mono (fun _ h => .inl h) (Keeps.refl S w), h4⟩, fun g hg => .inl (h5 g hg)⟩
      | rows e sz n xs kq aq => rw [hb] at hk; obtain ⟨v, h1, _⟩ := hk; simp only [Blk.frz, BlkOK, fzm, hi, hb]
      | mp ks cs => rw [hb] at hk; obtain ⟨v, _, _, h1, _⟩ := hk; simp only [Blk.frz, BlkOK, fzm, hi, hb]
    · rw [if_neg hv]
      have hi : inB vids k = false := by
        cases hb : inB vids k with
        | false => rfl
        | true => exact absurd (inB_iff.1 hb) hv
      refine hk.mono (by simp only [fzm, hi]) (fzm_le h vids) (fun _ h => .inl h) (Keeps.refl S w) fun p g hp hg => ⟨rfl, ?_⟩
      rintro (hb | ⟨k', q, h2, h3, h4⟩)
      · exact hb
      · exact absurd hg (h.apart k' k q p g (fun e => hv (e ▸ h2)) h3 hp h4)

theorem lastB_zip : ∀ {ids : List Nat} {bs : List Blk} {j k : Nat} {b : Blk}, ids.Nodup → ids[j]? = some k → bs[j]? = some b → lastB (ids.zip bs) k = some b
  | [], bs, j, k, b, hn, h, hb => by simp at h
  | i :: ids, [], j, k, b, hn, h, hb => by simp at hb
  | i :: ids, c :: bs, 0, k, b, hn, h, hb => by
    simp only [List.getElem?_cons_zero, Option.some.injEq] at h hb
    subst h; subst hb
    simp only [List.zip_cons_cons, lastB]
    have : lastB (ids.zip bs) i = none := by
      cases hl : lastB (ids.zip bs) i with
      | none => rfl
      | some b =>
        have h1 := lastB_mem (bl := ids.zip bs) (j := i) (by simp [hl])
        obtain ⟨q, hq, hqe⟩ := List.mem_map.1 h1
        have : q.1 ∈ ids := (List.of_mem_zip (a := q.1) (b := q.2) hq).1
        rw [hqe] at this
        exact absurd this (List.nodup_cons.1 hn).1
    rw [this]; simp
  | i :: ids, c :: bs, j + 1, k, b, hn, h, hb => by
    simp only [List.zip_cons_cons, lastB]
    rw [lastB_zip (List.nodup_cons.1 hn).2 (by simpa using h) (by simpa using hb)]
theorem lastB_zip_none {ids : List Nat} {bs : List Blk} {k : Nat} (h : k ∉ ids) : lastB (ids.zip bs) k = none := by
  cases hl : lastB (ids.zip bs) k with
  | none => rfl
  | some b =>
    have h1 := lastB_mem (bl := ids.zip bs) (j := k) (by simp [hl])
    obtain ⟨q, hq, hqe⟩ := List.mem_map.1 h1
    have : q.1 ∈ ids := (List.of_mem_zip (a := q.1) (b := q.2) hq).1
    rw [hqe] at this
    exact absurd this h
theorem lastB_append : ∀ (l r : List (Nat × Blk)) (k : Nat), lastB (l ++ r) k = (lastB r k).or (lastB l k)
  | [], r, k => by simp [lastB]
  | p :: l, r, k => by
    rw [List.cons_append, lastB, lastB_append l r k, lastB]
    cases lastB r k <;> cases lastB l k <;> rfl
theorem lastB_frz {H : List Blk} : ∀ {vids : List Nat} {k : Nat}, lastB (vids.map fun id => (id, (H.getD id .unborn).frz)) k = if k ∈ vids then some (H.getD k .unborn).frz else none
  | [], k => by simp [lastB]
  | v :: vids, k => by
    rw [List.map_cons, lastB, lastB_frz (vids := vids)]
    by_cases h : k ∈ vids
    · simp [h]
    · by_cases hk : k = v
      · subst hk; simp [h]
      · simp [h, hk]
mutual
theorem plain_ren {ids : List Nat} : ∀ x y : A, x.Plain → x.ren ids = some y → y.Plain
  | .top, y, hp, h => by simp only [A.ren, Option.some.injEq] at h; subst h; exact hp
  | .ab p, y, hp, h => by simp only [A.ren, Option.some.injEq] at h; subst h; exact hp
  | .d x, y, hp, h => by simp only [A.ren, Option.some.injEq] at h; subst h; exact hp
  | .agg xs, y, hp, h => by
    simp only [A.ren] at h
    cases hr : A.rens ids xs with
    | none => rw [hr] at h; cases h
    | some ys => rw [hr] at h; simp only [Option.some.injEq] at h; subst h; exact plains_ren xs ys hp hr
  | .tup xs, y, hp, h => by
    simp only [A.ren] at h
    cases hr : A.rens ids xs with
    | none => rw [hr] at h; cases h
    | some ys => rw [hr] at h; simp only [Option.some.injEq] at h; subst h; exact plains_ren xs ys hp hr
  | .clo fn f c, y, hp, h => by
    simp only [A.ren] at h
    cases hf : A.rens ids f with
    | none => rw [hf] at h; simp at h
    | some f' =>
      cases hc : A.rens ids c with
      | none => rw [hf, hc] at h; simp at h
      | some c' => rw [hf, hc] at h; simp only [Option.some.injEq] at h; subst h; exact ⟨plains_ren f f' hp.1 hf, plains_ren c c' hp.2 hc⟩
  | .loc id off, y, hp, h => by
    simp only [A.ren] at h
    cases hr : ids[id]? with
    | none => rw [hr] at h; cases h
    | some k => rw [hr] at h; simp only [Option.some.injEq] at h; subst h; trivial
  | .own id, y, hp, h => by
    simp only [A.ren] at h
    cases hr : ids[id]? with
    | none => rw [hr] at h; cases h
    | some k => rw [hr] at h; simp only [Option.some.injEq] at h; subst h; trivial
  | .sub id off n, y, hp, h => by
    simp only [A.ren] at h
    cases hr : ids[id]? with
    | none => rw [hr] at h; cases h
    | some k => rw [hr] at h; simp only [Option.some.injEq] at h; subst h; trivial
theorem plains_ren {ids : List Nat} : ∀ xs ys : List A, A.Plains xs → A.rens ids xs = some ys → A.Plains ys
  | [], ys, hp, h => by simp only [A.rens, Option.some.injEq] at h; subst h; trivial
  | x :: xs, ys, hp, h => by
    simp only [A.rens] at h
    cases hx : A.ren ids x with
    | none => rw [hx] at h; simp at h
    | some y =>
      cases hr : A.rens ids xs with
      | none => rw [hx, hr] at h; simp at h
      | some zs => rw [hx, hr] at h; simp only [Option.some.injEq] at h; subst h; exact ⟨plain_ren x y hp.1 hx, plains_ren xs zs hp.2 hr⟩
end
/-- A call whose results are plain. -/
theorem CallOK.plain (h : CallOK P st o callee args f first cap xs pre res post pids nids vids val post') (hp : res.Plain ∧ ∀ b ∈ post, b.Plain) :
    OpRun P o st (callR callee args pids nids vids) val ((pids ++ nids).zip post') := by
  intro st' hl _ cx m S a w hs
  have h' := h.move hl
  refine runs_mono (h'.run hs) fun v w' ⟨hg1, hz1, m1, S1, h1, h2⟩ => ?_
  obtain ⟨m2, hv, hLe, hK, hother, hfree, hV, hold⟩ := merge hs.hold h'.nodup h'.hpre h'.hpost h'.nofro h'.new h'.dis h1
  refine ⟨m2, S, hLe, fun _ h => h, hK, hold S _ (fun _ h => h) (fun b hb => h1.s0 b (.inl hb)) (fun j k hj => ?_) (fun k hk => ?_) (fun k hk hkv => ?_), ?_⟩
  · have hjl : j < post.length := by rw [← h'.hpost.1]; exact (List.getElem?_eq_some_iff.1 hj).1
    refine ⟨BlkOK.plain (hp.2 _ (List.mem_of_getElem? (getD_some hjl))) (fun b hb => h1.s0 b (.inl hb)) (h1.ok j), ?_⟩
    obtain ⟨b', h4, _⟩ := h'.hpost.2 j _ (getD_some hjl)
    rw [← List.getD_eq_getElem?_getD, getD_putB, lastB_zip h'.nodup hj h4, h4]
    rfl
  · rw [getD_putB, lastB_zip_none (h'.dis k hk)]
    refine (hs.hold.ok k).mono (hother k (h'.dis k hk)) hLe (fun _ h => h) hK fun p g h3 h4 => ⟨(hV g ⟨k, p, hk, h3, h4⟩).1, fun h => h⟩
  · rw [getD_putB, lastB_zip_none hk]; rfl
  · rw [← hv] at h2
    exact Rep.plain _ _ (plain_ren res val hp.1 h'.hres) ((Rep.via res val v h'.hres).1 h2)
/-- A call whose results may lie in what it was shown: that is frozen. -/
theorem CallOK.frozen (h : CallOK P st o callee args f first cap xs pre res post pids nids vids val post') :
    OpRun P o st (callR callee args pids nids vids) val ((pids ++ nids).zip post' ++ vids.map fun id => (id, (st.H.getD id .unborn).frz)) := by
  intro st' hl _ cx m S a w hs
  have h' := h.move hl
  have ev : (vids.map fun id => (id, (st.H.getD id .unborn).frz)) = vids.map fun id => (id, (st'.H.getD id .unborn).frz) :=
    List.map_congr_left fun id hid => by rw [blk_agree (st := st) (st' := st') (ids := vids) (fun l hm => hl l (by simp [callR, hm])) hid]
  rw [ev]
  obtain ⟨vs, e, hargs⟩ := h'.enters hs
  rw [e]
  have hF : Hold cx (fzm m st'.H vids) (SV' m S vids) w (putB st'.H (vids.map fun id => (id, (st'.H.getD id .unborn).frz))) := hs.hold.freeze fun k => by
    rw [getD_putB, lastB_frz]
    by_cases hk : k ∈ vids <;> simp [hk]
  have hle := fzm_le hs.hold vids
  have hsame : ∀ k, k ∉ vids → (putB st'.H (vids.map fun id => (id, (st'.H.getD id .unborn).frz))).getD k .unborn = st'.H.getD k .unborn := fun k hk => by
    rw [getD_putB, lastB_frz, if_neg hk]; rfl
  have hnv : ∀ k, k ∈ pids ++ nids → k ∉ vids := fun k hk hv => h'.dis k hv hk
  have hpre' : renH pids pre (putB st'.H (vids.map fun id => (id, (st'.H.getD id .unborn).frz))) := h'.hpre.congr fun id hid => hsame id (hnv id (by simp [hid]))
  have hdis' : ∀ id ∈ ([] : List Nat), id ∉ pids ++ nids := fun id hid => by cases hid
  have hrun := call_core (vids := []) (nids := nids) hF h'.con (Reps.mono hle (fun _ h => .inl h) (Keeps.refl _ w) _ _ (nnL_reps h'.hargs.choose_spec.2 (Reps.view hs.hold _ _ hargs))) h'.hargs.choose_spec.1 hpre' h'.nodup hdis'
  refine Calls.mono hrun fun e w' ⟨v, he, hg1, hz1, m1, S1, h1, h2⟩ => ⟨v, he, ?_⟩
  obtain ⟨m2, hv, hLe, hK, hother, hfree, hV, hold⟩ := merge hF h'.nodup hpre' h'.hpost h'.nofro (fun id hid => (hsame id (hnv id (by simp [hid]))).trans (h'.new id hid)) hdis' h1
  refine ⟨m2, S1, hle.trans hLe, fun b hb => h1.s0 b (.inl (.inl hb)), fun b hb => hK b (.inl hb), ?_, ?_⟩
  · refine hold S1 _ (fun b hb => h1.s0 b (.inl hb)) (fun _ h => h) (fun j k hj => ?_) (fun k hk => by cases hk) (fun k hk _ => ?_)
    · have hjl : j < post.length := by rw [← h'.hpost.1]; exact (List.getElem?_eq_some_iff.1 hj).1
      refine ⟨h1.ok j, ?_⟩
      obtain ⟨b', h4, _⟩ := h'.hpost.2 j _ (getD_some hjl)
      have hkm : k ∈ pids ++ nids := List.mem_of_getElem? hj
      rw [← List.getD_eq_getElem?_getD, getD_putB, lastB_append, lastB_frz, if_neg (hnv k hkm), Option.none_or, lastB_zip h'.nodup hj h4, h4]
      rfl
    · rw [getD_putB, getD_putB, lastB_append, lastB_zip_none hk, Option.or_none]
  · rw [← hv] at h2
    exact (Rep.via res val v h'.hres).1 h2
end
end Go.Proofs.Ytelhmhmgaaebpaa.K

namespace Go.Proofs.Ytelhmhmgaaebpaa.K
open Go.RowKit

/-- The blocks T have changed, and none else. -/
theorem Hold.change {cx : Cx} {m m' : Mp} {S : Nat → Prop} {w w' : World} {H H' : List Blk} (h : Hold cx m S w H) (T : Nat → Prop) (hLe : Le m m') (hos : w'.os = w.os) (htape : w'.tape = w.tape) (hout : w'.output = w.output)
    (hsize : w.heap.size ≤ w'.heap.size) (hheap : ∀ b, b < w.heap.size → w'.heap[b]? = w.heap[b]? ∨ ∃ id p, T id ∧ m id = some p ∧ p.blk = some b ∧ ¬ S b)
    (hoth : ∀ id, ¬ T id → m' id = m id ∧ H'.getD id .unborn = H.getD id .unborn)
    (hok : Keeps S w w' → ∀ id, T id → BlkOK m' S w' id (H'.getD id .unborn))
    (hpl : ∀ id p b, T id → m' id = some p → p.blk = some b → ((∃ id0 p0, T id0 ∧ m id0 = some p0 ∧ p0.blk = some b) ∨ w.heap.size ≤ b) ∧ b < w'.heap.size)
    (hap : ∀ id id' p p' b, T id → T id' → id ≠ id' → m' id = some p → m' id' = some p' → p.blk = some b → p'.blk ≠ some b) : Hold cx m' S w' H' ∧ Keeps S w w' := by
  have hK : Keeps S w w' := fun b hb => by
    rcases hheap b (h.s b hb).2 with h1 | ⟨id, p, _, _, _, hn⟩
    · exact h1
    · exact absurd hb hn
  refine ⟨⟨hos.trans h.os, htape.trans h.tape, hout.trans h.output, Nat.le_trans h.size hsize, fun b hb hP => ?_, h.s0, fun b hb => ⟨(h.s b hb).1, Nat.lt_of_lt_of_le (h.s b hb).2 hsize⟩, fun id p b hp hb => ?_, fun id id' p p' b hne hp hp' hb => ?_, fun id => ?_, h.le.trans hLe⟩, hK⟩
  · rcases hheap b (Nat.lt_of_lt_of_le hb h.size) with h1 | ⟨id, p, _, h2, h3, hn⟩
    · rw [h1, h.old b hb hP]
    · rcases (h.pl id p b h2 h3).1 with h4 | h4 | h4
      · exact absurd h4 hP
      · exact absurd (h.s0 b h4) hn
      · omega
  · by_cases hT : T id
    · obtain ⟨h1, h2⟩ := hpl id p b hT hp hb
      refine ⟨?_, h2⟩
      rcases h1 with ⟨id0, p0, _, h3, h4⟩ | h1
      · exact (h.pl id0 p0 b h3 h4).1
      · have := h.size; exact .inr (.inr (by omega))
    · rw [(hoth id hT).1] at hp
      exact ⟨(h.pl id p b hp hb).1, Nat.lt_of_lt_of_le (h.pl id p b hp hb).2 hsize⟩
  · have mix : ∀ k k' q q', T k → ¬ T k' → m' k = some q → m' k' = some q' → q.blk = some b → q'.blk ≠ some b := fun k k' q q' hk hk' h1 h2 h3 h4 => by
      rw [(hoth k' hk').1] at h2
      rcases (hpl k q b hk h1 h3).1 with ⟨id0, p0, h5, h6, h7⟩ | h5
      · exact h.apart id0 k' p0 q' b (fun e => hk' (e ▸ h5)) h6 h2 h7 h4
      · have := (h.pl k' q' b h2 h4).2; omega
    by_cases hT : T id
    · by_cases hT' : T id'
      · exact hap id id' p p' b hT hT' hne hp hp' hb
      · exact mix id id' p p' hT hT' hp hp' hb
    · by_cases hT' : T id'
      · exact fun hb' => mix id' id p' p hT' hT hp' hp hb' hb
      · rw [(hoth id hT).1] at hp; rw [(hoth id' hT').1] at hp'; exact h.apart id id' p p' b hne hp hp' hb
  · by_cases hT : T id
    · exact hok hK id hT
    · rw [(hoth id hT).2]
      refine (h.ok id).mono (hoth id hT).1 hLe (fun _ h => h) hK fun p g hp hg => ⟨?_, fun h => h⟩
      rcases hheap g (h.pl id p g hp hg).2 with h1 | ⟨k, q, h2, h3, h4, _⟩
      · exact h1
      · exact absurd hg (h.apart k id q p g (fun e => hT (e ▸ h2)) h3 hp h4)
def updM (m : Mp) (id : Nat) (p : Pl) : Mp := fun k => if k = id then some p else m k
/-- A new block. -/
theorem Hold.alloc {cx : Cx} {m : Mp} {S : Nat → Prop} {w : World} {H : List Blk} {id : Nat} (h : Hold cx m S w H) (hid : H.getD id .unborn = .unborn) (p : Pl) (hp : p.blk = some w.heap.size) (o : Obj) (b : Blk)
    (hok : Keeps S w (w.alloc o) → Le m (updM m id p) → BlkOK (updM m id p) S (w.alloc o) id b) : Le m (updM m id p) ∧ Keeps S w (w.alloc o) ∧ Hold cx (updM m id p) S (w.alloc o) (setAt H id b) := by
  have hm : m id = none := by have := h.ok id; rw [hid] at this; exact this
  have hLe : Le m (updM m id p) := fun k q hk => by
    by_cases e : k = id
    · subst e; rw [hm] at hk; cases hk
    · left; simp only [updM, e, if_false]; exact hk
  have := h.change (m' := updM m id p) (w' := w.alloc o) (H' := setAt H id b) (fun k => k = id) hLe rfl rfl rfl (by simp) (fun b hb => .inl (Below.heap_alloc w o b hb))
    (fun k hk => ⟨by simp only [updM, hk, if_false], by rw [getD_setAt, if_neg hk]⟩) (fun hK k hk => by subst hk; rw [getD_setAt, if_pos rfl]; exact hok hK hLe)
    (fun k q b hk hq hb => by subst hk; simp only [updM, if_true, Option.some.injEq] at hq; subst hq; rw [hp] at hb; cases hb; exact ⟨.inr (Nat.le_refl _), by simp⟩)
    (fun k k' q q' b hk hk' hne => by subst hk; subst hk'; exact absurd rfl hne)
  exact ⟨hLe, this.2, this.1⟩
/-- A block of our own is written. -/
theorem Hold.write {cx : Cx} {m : Mp} {S : Nat → Prop} {w w' : World} {H : List Blk} {id g : Nat} {p : Pl} (h : Hold cx m S w H) (hp : m id = some p) (hg : p.blk = some g) (hS : ¬ S g) (hos : w'.os = w.os) (htape : w'.tape = w.tape) (hout : w'.output = w.output)
    (hsize : w.heap.size ≤ w'.heap.size) (hheap : ∀ b, b < w.heap.size → b ≠ g → w'.heap[b]? = w.heap[b]?) (b : Blk) (hok : Keeps S w w' → BlkOK m S w' id b) : Keeps S w w' ∧ Hold cx m S w' (setAt H id b) := by
  have := h.change (m' := m) (w' := w') (H' := setAt H id b) (fun k => k = id) (Le.refl m) hos htape hout hsize (fun b hb => by
      by_cases e : b = g
      · subst e; exact .inr ⟨id, p, rfl, hp, hg, hS⟩
      · exact .inl (hheap b hb e))
    (fun k hk => ⟨rfl, by rw [getD_setAt, if_neg hk]⟩) (fun hK k hk => by subst hk; rw [getD_setAt, if_pos rfl]; exact hok hK)
    (fun k q b hk hq hb => by subst hk; rw [hp] at hq; cases hq; exact ⟨.inl ⟨k, p, rfl, hp, hb⟩, Nat.lt_of_lt_of_le (h.pl k p b hp hb).2 hsize⟩)
    (fun k k' q q' b hk hk' hne => by subst hk; subst hk'; exact absurd rfl hne)
  exact ⟨this.2, this.1⟩
section
variable {P : Program} {o : Oper} {st : St}
theorem OpRun.cast {R : List Loc} {val val' : A} {bl : List (Nat × Blk)} (h : OpRun P o st R val bl) (e : val = val') : OpRun P o st R val' bl := e ▸ h
theorem OpRun.castB {R : List Loc} {val : A} {bl bl' : List (Nat × Blk)} (h : OpRun P o st R val bl) (e : bl = bl') : OpRun P o st R val bl' := e ▸ h
theorem OpRun.pure {R : List Loc} {val : A} (h : ∀ st' : St, (∀ l ∈ R, st'.at l = st.at l) → ∀ (cx : Cx) (m : Mp) (S : Nat → Prop) (a : Act) (w : World), Sim cx m S a w st' → ∃ v, (execOp a.eval o).run P w = .ok (.value v) w ∧ Rep m S w val v) : OpRun P o st R val [] := by
  intro st' hl _ cx m S a w hs
  obtain ⟨v, h1, h2⟩ := h st' hl cx m S a w hs
  rw [h1]
  exact ⟨m, S, Le.refl m, fun _ h => h, Keeps.refl S w, hs.hold, h2⟩
theorem op_rep {x : Operand} {y : A} (hx : opA st x = y) {R : List Loc} (hR : ∀ l ∈ locOf x, l ∈ R) {st' : St} (hl : ∀ l ∈ R, st'.at l = st.at l) {cx : Cx} {m : Mp} {S : Nat → Prop} {a : Act} {w : World} (hs : Sim cx m S a w st') : Rep m S w y (a.eval x) := by
  have := hs.op x
  rwa [opA_agree fun l h => hl l (hR l h), hx] at this
theorem op_lit {x : Operand} {v : Value} (hx : opA st x = .d (.lit v)) {R : List Loc} (hR : ∀ l ∈ locOf x, l ∈ R) {st' : St} (hl : ∀ l ∈ R, st'.at l = st.at l) {cx : Cx} {m : Mp} {S : Nat → Prop} {a : Act} {w : World} (hs : Sim cx m S a w st') : a.eval x = v := by
  have := op_rep hx hR hl hs
  simp only [Rep, RepD] at this
  exact this.1
/-- 'move', 'assign'. -/
theorem op_move {x : Operand} (ho : mvOf o.op = some x) : OpRun P o st (locOf x) (opA st x) [] := by
  refine .pure fun st' hl cx m S a w hs => ⟨a.eval x, ?_, op_rep rfl (fun _ h => h) hl hs⟩
  obtain ⟨dst, op, type, pos, after, guard⟩ := o
  cases op <;> simp only [mvOf] at ho <;> first | (cases ho; rfl) | cases ho
theorem op_pickT {c x y : Operand} (ho : o.op = .pick c x y) (hc : opA st c = .d (.lit (.bool true))) : OpRun P o st (locsOf [c, x]) (opA st x) [] := by
  refine .pure fun st' hl cx m S a w hs => ⟨a.eval x, ?_, op_rep rfl (fun l h => by simp [locsOf, h]) hl hs⟩
  have hb := op_lit hc (R := locsOf [c, x]) (fun l h => by simp [locsOf, h]) hl hs
  simp [execOp, ho, hb, asBool]
theorem op_pickF {c x y : Operand} (ho : o.op = .pick c x y) (hc : opA st c = .d (.lit (.bool false))) : OpRun P o st (locsOf [c, y]) (opA st y) [] := by
  refine .pure fun st' hl cx m S a w hs => ⟨a.eval y, ?_, op_rep rfl (fun l h => by simp [locsOf, h]) hl hs⟩
  have hb := op_lit hc (R := locsOf [c, y]) (fun l h => by simp [locsOf, h]) hl hs
  simp [execOp, ho, hb, asBool]
theorem op_extract {x : Operand} {i : Nat} {xs : List A} {y : A} (ho : o.op = .extract x i) (hx : opA st x = .tup xs) (hi : xs[i]? = some y) : OpRun P o st (locOf x) y [] := by
  refine .pure fun st' hl cx m S a w hs => ?_
  have hr := op_rep hx (fun _ h => h) hl hs
  simp only [Rep] at hr
  obtain ⟨vs, h1, h2⟩ := hr
  obtain ⟨v, h3, h4⟩ := h2.at i y hi
  refine ⟨v, ?_, h4⟩
  have : vs[i]? = some v := by rw [← Array.getElem?_toList]; exact h3
  simp [execOp, ho, h1, Instr.extract, this]
/-- An operation on two plain values. -/
theorem op_bin {op : BinOp} {t u : TypeId} {x y : Operand} {a1 a2 v : Value} (ho : o.op = .binOp op t x y u) (hx : opA st x = .d (.lit a1)) (hy : opA st y = .d (.lit a2))
    (hrun : ∀ w, (do eqGuard op t x y a1 a2; binOp op t a1 a2 : Sem Value).run P w = .ok v w) (h1 : v.oneCell' = true := by rfl) : OpRun P o st (locsOf [x, y]) (.d (.lit v)) [] := by
  refine .pure fun st' hl cx m S a w hs => ⟨v, ?_, by simp only [Rep]; unfold RepD; exact ⟨rfl, h1⟩⟩
  have h1 := op_lit hx (R := locsOf [x, y]) (fun l h => by simp [locsOf, h]) hl hs
  have h2 := op_lit hy (R := locsOf [x, y]) (fun l h => by simp [locsOf, h]) hl hs
  have := hrun w
  simp only [execOp, ho, h1, h2]
  rw [Sem.run_bind, this]; rfl
theorem op_un {op : UnOp} {t : TypeId} {x : Operand} {a1 v : Value} (ho : o.op = .unOp op t x) (hx : opA st x = .d (.lit a1)) (hrun : ∀ w, (Op.unary op a1).run P w = .ok v w) (h1 : v.oneCell' = true := by rfl) : OpRun P o st (locOf x) (.d (.lit v)) [] := by
  refine .pure fun st' hl cx m S a w hs => ⟨v, ?_, by simp only [Rep]; unfold RepD; exact ⟨rfl, h1⟩⟩
  have h1 := op_lit hx (fun _ h => h) hl hs
  simp only [execOp, ho, h1]
  rw [Sem.run_bind, hrun w]; rfl
theorem op_convert {s t : TypeId} {x : Operand} {a1 v : Value} (ho : o.op = .convert s t x) (hx : opA st x = .d (.lit a1)) (hrun : ∀ w, (convert s t a1).run P w = .ok v w) (h1 : v.oneCell' = true := by rfl) : OpRun P o st (locOf x) (.d (.lit v)) [] := by
  refine .pure fun st' hl cx m S a w hs => ⟨v, ?_, by simp only [Rep]; unfold RepD; exact ⟨rfl, h1⟩⟩
  have h1 := op_lit hx (fun _ h => h) hl hs
  simp only [execOp, ho, h1]
  rw [Sem.run_bind, hrun w]; rfl
theorem op_mkfn {fn : Fn} {first cap : Array Operand} (ho : o.op = .makeFunc fn first cap) : OpRun P o st (locsOf (first.toList ++ cap.toList)) (.clo fn (first.toList.map (opA st)) (cap.toList.map (opA st))) [] := by
  have mem : ∀ (xs : List Operand) (x : Operand), x ∈ xs → ∀ l ∈ locOf x, l ∈ locsOf xs := by
    intro xs
    induction xs with
    | nil => intro x hx; cases hx
    | cons y ys ih =>
      intro x hx l hl
      rcases List.mem_cons.1 hx with rfl | hx
      · simp [locsOf, hl]
      · simp [locsOf, ih x hx l hl]
  refine .pure fun st' hl cx m S a w hs => ⟨.func fn (first.map a.eval) (cap.map a.eval), by simp [execOp, ho, Instr.makeFunc], ?_⟩
  have key : ∀ (xs : Array Operand), (∀ x ∈ xs.toList, x ∈ first.toList ++ cap.toList) → Reps m S w (xs.toList.map (opA st)) (xs.map a.eval).toList := fun xs hxs => by
    rw [Array.toList_map]
    refine Reps.of (by simp) fun i x v hx hv => ?_
    rw [List.getElem?_map] at hx hv
    cases hi : xs.toList[i]? with
    | none => rw [hi] at hx; cases hx
    | some y =>
      rw [hi] at hx hv; cases hx; cases hv
      exact op_rep rfl (mem _ y (hxs y (List.mem_of_getElem? hi))) hl hs
  simp only [Rep]
  exact ⟨_, _, rfl, key first fun x hx => by simp [hx], key cap fun x hx => by simp [hx]⟩
end
end Go.Proofs.Ytelhmhmgaaebpaa.K

namespace Go.Proofs.Ytelhmhmgaaebpaa.K
open Go.RowKit

theorem info_of {P : Program} {t : TypeId} {i : TypeInfo} (h : P.info? t = some i) (w : World) : (sizeOf t).run P w = .ok i.size w := by simp [sizeOf, typeInfo, h]
/-- The cells that an address leads to, and where it stands in them. -/
def cellsAt (H : List Blk) : A → Option (List A × Nat)
  | .loc id off => match H.getD id .unborn with
    | .box xs => some (xs, off)
    | .arr _ _ _ ds => some (ds.map .d, off)
    | .fro _ _ _ ds => some (ds.map .d, off)
    | .rows _ _ _ xs k a => some ((xs.map .d).set k a, off)
    | _ => none
  | .d (.ref ds) => some (ds.map .d, 0)
  | _ => none
def locA : A → List Loc
  | .loc id _ => [.blk id]
  | .own id => [.blk id]
  | .sub id _ _ => [.blk id]
  | _ => []
theorem locA_agree {st st' : St} {y : A} (h : ∀ l ∈ locA y, st'.at l = st.at l) : cellsAt st'.H y = cellsAt st.H y := by
  cases y with
  | loc id off =>
    have := blk_agree (st := st) (st' := st') (ids := [id]) (by simpa [blks, locA] using h) (id := id) (by simp)
    simp only [cellsAt, this]
  | d x => cases x <;> rfl
  | _ => rfl
def Cells (m : Mp) (S : Nat → Prop) (w : World) (p : Addr) (xs : List A) : Prop := ∀ (i : Nat) (x : A), xs[i]? = some x → ∃ u, w.cell? (p.add i) = some u ∧ u.oneCell' = true ∧ Rep m S w x u
theorem addr_add2 (p : Addr) (i j : Nat) : (p.add i).add j = p.add (i + j) := by
  unfold Addr.add
  by_cases hk : i = 0 <;> by_cases hj0 : j = 0 <;> simp [hk, hj0] <;> omega
theorem row_cells {m : Mp} {S : Nat → Prop} {w : World} {e sz n : Nat} {ds : List D} {v : Value} (h : RowOK S w e sz n ds v) {g : Nat} (hg : v.ownBlock = some g) : Cells m S w ⟨g, 0, none⟩ (ds.map .d) := by
  intro i x hx
  obtain ⟨cells, ho, hr, h1⟩ := h
  rw [List.getElem?_map] at hx
  cases hd : ds[i]? with
  | none => rw [hd] at hx; cases hx
  | some y =>
    rw [hd] at hx; cases hx
    have hil : i < cells.length := by rw [hr.1]; exact (List.getElem?_eq_some_iff.1 hd).1
    have hu : cells[i]? = some cells[i] := List.getElem?_eq_getElem hil
    refine ⟨cells[i], ho.cells hg i _ hu, h1 _ (List.mem_of_getElem? hu), ?_⟩
    simp only [Rep]
    exact hr.2 i y _ hd hu
theorem cellsAt_spec {cx : Cx} {m : Mp} {S : Nat → Prop} {w : World} {H : List Blk} (h : Hold cx m S w H) {y : A} {v : Value} {xs : List A} {off : Nat} (hc : cellsAt H y = some (xs, off)) (hv : Rep m S w y v) :
    ∃ p : Addr, v = .pointer (some (p.add off)) ∧ Cells m S w p xs := by
  cases y with
  | loc id o =>
    simp only [cellsAt] at hc
    have hok := h.ok id
    cases hb : H.getD id .unborn with
    | unborn => rw [hb] at hc; cases hc
    | gone => rw [hb] at hc; cases hc
    | box ys =>
      rw [hb] at hc hok
      cases hc
      obtain ⟨b, cells, T, h1, h2, h3, h4, h5⟩ := hok
      simp only [Rep, h1] at hv
      refine ⟨⟨b, 0, none⟩, by rw [addr_add, Nat.zero_add]; exact hv, fun i x hx => ?_⟩
      obtain ⟨u, h6, h7⟩ := h3.at i x hx
      exact ⟨u, by rw [addr_add, Nat.zero_add, cell_at h2, ← Array.getElem?_toList]; exact h6, h4 u (List.mem_of_getElem? h6), h7⟩
    | arr e sz n ds =>
      rw [hb] at hc hok
      cases hc
      obtain ⟨v', h1, h2, h3⟩ := hok
      simp only [Rep, h1] at hv
      obtain ⟨g, hg, rfl⟩ := hv
      exact ⟨⟨g, 0, none⟩, by rw [addr_add, Nat.zero_add], row_cells h2 hg⟩
    | fro e sz n ds =>
      rw [hb] at hc hok
      cases hc
      obtain ⟨v', h1, h2, h3⟩ := hok
      simp only [Rep, h1] at hv
      obtain ⟨g, hg, rfl⟩ := hv
      exact ⟨⟨g, 0, none⟩, by rw [addr_add, Nat.zero_add], row_cells h2 hg⟩
    | rows e sz n ys kq aq =>
      rw [hb] at hc hok
      cases hc
      obtain ⟨v', h1, ⟨cells, h2, h3, h4⟩, h5⟩ := hok
      simp only [Rep, h1] at hv
      obtain ⟨g, hg, rfl⟩ := hv
      refine ⟨⟨g, 0, none⟩, by rw [addr_add, Nat.zero_add], fun i x hx => ?_⟩
      obtain ⟨u, h6, h7⟩ := h3.at i x hx
      exact ⟨u, h2.cells hg i u h6, h4 u (List.mem_of_getElem? h6), h7⟩
    | mp ks cs => rw [hb] at hc; cases hc
  | d x =>
    cases x with
    | ref ds =>
      simp only [cellsAt] at hc
      cases hc
      simp only [Rep, RepD] at hv
      obtain ⟨a, rfl, h1⟩ := hv
      refine ⟨a, by simp [Addr.add], fun i x hx => ?_⟩
      rw [List.getElem?_map] at hx
      cases hd : ds[i]? with
      | none => rw [hd] at hx; cases hx
      | some y =>
        rw [hd] at hx; cases hx
        obtain ⟨p, u, hp, h2, h3, h4, h5⟩ := RepDs.at ds _ 0 h1 i y hd
        cases hp
        rw [Nat.zero_add] at h2
        exact ⟨u, h2, h4, by simp only [Rep]; exact h5⟩
    | nil => cases hc
    | lit v => cases hc
    | sl n cs => cases hc
    | slc n cs => cases hc
    | mp nl ks cs => cases hc
  | _ => cases hc
theorem run_loadC {P : Program} {t : TypeId} {xs : List A} {off : Nat} {x : A} (h : loadA P t xs off = some x) {m : Mp} {S : Nat → Prop} {w : World} {p : Addr} (hc : Cells m S w p xs) :
    ∃ v, (loadVar t (p.add off)).run P w = .ok v w ∧ Rep m S w x v := by
  have scalar : xs[off]? = some x → ∃ v, w.cell? (p.add off) = some v ∧ Rep m S w x v := fun hx => by
    obtain ⟨v, h1, _, h2⟩ := hc off x hx
    exact ⟨v, h1, h2⟩
  have aggr : ∀ (i : TypeInfo), P.info? t = some i → (match Nat.ble (off + i.size) xs.length with | true => some (A.agg ((xs.drop off).take i.size)) | false => none) = some x →
      ∃ v, (do pure (Value.agg (← loadCells (p.add off) (← sizeOf t))) : Sem Value).run P w = .ok v w ∧ Rep m S w x v := fun i hi hx => by
    cases hble : Nat.ble (off + i.size) xs.length with
    | false => rw [hble] at hx; cases hx
    | true =>
      rw [hble] at hx
      simp only [Option.some.injEq] at hx
      subst hx
      have hle : off + i.size ≤ xs.length := by simpa [Nat.ble_eq] using hble
      -- the cells
      have hget : ∀ j, j < i.size → ∃ u, w.cell? (p.add (off + j)) = some u ∧ Rep m S w (xs[off + j]?.getD .top) u := fun j hj => by
        obtain ⟨u, h1, _, h2⟩ := hc (off + j) _ (List.getElem?_eq_getElem (by omega))
        exact ⟨u, h1, by rw [List.getElem?_eq_getElem (by omega : off + j < xs.length)]; exact h2⟩
      obtain ⟨f, hf⟩ : ∃ f : Nat → Value, ∀ j, j < i.size → w.cell? (p.add (off + j)) = some (f j) ∧ Rep m S w (xs[off + j]?.getD .top) (f j) :=
        ⟨fun j => if hj : j < i.size then Classical.choose (hget j hj) else undef, fun j hj => by simp only [hj, dif_pos]; exact Classical.choose_spec (hget j hj)⟩
      have hld := run_loadCells_list (P := P) (w := w) (p.add off) ((List.range i.size).map f) (fun j v hj => by
        rw [List.getElem?_map] at hj
        cases hr : (List.range i.size)[j]? with
        | none => rw [hr] at hj; cases hj
        | some k =>
          rw [hr] at hj; cases hj
          obtain ⟨hjl, hk⟩ := List.getElem?_eq_some_iff.1 hr
          simp at hk hjl
          subst hk
          rw [addr_add2]; exact (hf j hjl).1)
      rw [List.length_map, List.length_range] at hld
      refine ⟨.agg ((List.range i.size).map f).toArray, by simp [sizeOf, typeInfo, hi, hld], ?_⟩
      simp only [Rep]
      refine ⟨_, rfl, Reps.of (by simp; omega) fun j y v hy hv => ?_⟩
      rw [List.getElem?_take] at hy
      split at hy
      · rename_i hj
        rw [List.getElem?_drop] at hy
        have h1 := (hf j hj).2
        rw [hy] at h1
        rw [List.getElem?_map, List.getElem?_range hj] at hv
        cases hv
        exact h1
      · cases hy
  unfold loadA at h
  cases hu : P.underlying t with
  | none => rw [hu] at h; cases h
  | some d =>
    rw [hu] at h
    have key : ∀ (agg : Bool), (isAgg t).run P w = .ok agg w → (loadVar t (p.add off)).run P w = if agg then (do pure (Value.agg (← loadCells (p.add off) (← sizeOf t))) : Sem Value).run P w else (load (p.add off)).run P w := fun agg h => by
      unfold loadVar
      simp only [Sem.run_bind, h, Result.andThen_ok]
      cases agg <;> simp
    cases d with
    | struct fs =>
      rw [key true (by simp [isAgg, underlying, hu])]
      simp only at h
      cases hi : P.info? t with
      | none => rw [hi] at h; cases h
      | some i => rw [hi] at h; exact aggr i hi h
    | array n e =>
      rw [key true (by simp [isAgg, underlying, hu])]
      simp only at h
      cases hi : P.info? t with
      | none => rw [hi] at h; cases h
      | some i => rw [hi] at h; exact aggr i hi h
    | _ =>
      rw [key false (by simp [isAgg, underlying, hu])]
      simp only at h
      obtain ⟨v, h1, h2⟩ := scalar h
      exact ⟨v, by simp [h1], h2⟩

section
variable {P : Program} {o : Oper} {st : St}
theorem op_load {t : TypeId} {x : Operand} {y : A} {xs : List A} {off : Nat} {z : A} (ho : o.op = .load t x) (hy : opA st x = y) (hc : cellsAt st.H y = some (xs, off)) (hl : loadA P t xs off = some z) :
    OpRun P o st (locOf x ++ locA y) z [] := by
  refine .pure fun st' hag cx m S a w hs => ?_
  have hr := op_rep hy (R := locOf x ++ locA y) (fun l h => by simp [h]) hag hs
  rw [← locA_agree fun l h => hag l (by simp [h])] at hc
  obtain ⟨p, hp, hcells⟩ := cellsAt_spec hs.hold hc hr
  obtain ⟨v, h1, h2⟩ := run_loadC hl hcells
  exact ⟨v, by simp [execOp, ho, Instr.loadAt, Instr.sureAddr, hp, h1], h2⟩
/-- How many cells a struct or an array has. -/
def aggSize (P : Program) (t : TypeId) : Option Nat := match P.underlying t with
  | some (.struct _) | some (.array _ _) => (P.info? t).map (·.size)
  | _ => none
def scalarT (P : Program) (t : TypeId) : Bool := match P.underlying t with
  | some (.struct _) | some (.array _ _) | none => false
  | some _ => true
theorem loadA_agg {t : TypeId} {xs zs : List A} {off : Nat} (hk : aggSize P t = some zs.length) (hle : off + zs.length ≤ xs.length) (hz : (xs.drop off).take zs.length = zs) : loadA P t xs off = some (.agg zs) := by
  unfold aggSize at hk
  unfold loadA
  have key : ∀ i : Option TypeInfo, i.map (·.size) = some zs.length → (match i with | some i => (match Nat.ble (off + i.size) xs.length with | true => some (A.agg ((xs.drop off).take i.size)) | false => none) | none => none) = some (.agg zs) := fun i hi => by
    cases i with
    | none => cases hi
    | some i =>
      simp only [Option.map_some, Option.some.injEq] at hi
      have hb' : Nat.ble (off + zs.length) xs.length = true := by rw [Nat.ble_eq]; omega
      simp only [hi, hb', hz]
  cases hu : P.underlying t with
  | none => rw [hu] at hk; cases hk
  | some d => cases d <;> simp only [hu] at hk ⊢ <;> first | exact key _ hk | cases hk
theorem loadA_scalar {t : TypeId} {xs : List A} {off : Nat} (hs : scalarT P t = true) : loadA P t xs off = xs[off]? := by
  unfold scalarT at hs
  unfold loadA
  cases hu : P.underlying t with
  | none => rw [hu] at hs; cases hs
  | some d => cases d <;> simp only [hu] at hs ⊢ <;> cases hs
/-- The same where the cells are named one by one. -/
theorem op_load_of {t : TypeId} {x : Operand} {y : A} {xs : List A} {off : Nat} (zs : List A) (ho : o.op = .load t x) (hy : opA st x = y) (hc : cellsAt st.H y = some (xs, off))
    (hk : aggSize P t = some zs.length) (hle : off + zs.length ≤ xs.length) (hz : (xs.drop off).take zs.length = zs) : OpRun P o st (locOf x ++ locA y) (.agg zs) [] := op_load ho hy hc (loadA_agg hk hle hz)
theorem op_load_at {t : TypeId} {x : Operand} {y : A} {xs : List A} {off : Nat} (z : A) (ho : o.op = .load t x) (hy : opA st x = y) (hc : cellsAt st.H y = some (xs, off)) (hs : scalarT P t = true) (hz : xs[off]? = some z) : OpRun P o st (locOf x ++ locA y) z [] :=
  op_load ho hy hc (by rw [loadA_scalar hs]; exact hz)

/-! ### addresses -/
def fieldOff (P : Program) (t : TypeId) (f : Nat) : Option Nat := match P.underlying t with
  | some (.struct fs) => match fs[f]? with
    | some q => match P.info? q.type with
      | some i => match i.size with | 0 => none | _ + 1 => some q.offset
      | none => none
    | none => none
  | _ => none
/-- An address so many cells further. -/
def addA (k : Nat) : A → A
  | .loc id off => .loc id (off + k)
  | .d (.ref ds) => .d (.ref (ds.drop k))
  | _ => .top
theorem addA_rep {cx : Cx} {m : Mp} {S : Nat → Prop} {w : World} {H : List Blk} (h : Hold cx m S w H) {y : A} {v : Value} (hr : Rep m S w y v) (hy : cellsAt H y ≠ none) (k : Nat) : ∃ p, v = .pointer (some p) ∧ Rep m S w (addA k y) (.pointer (some (p.add k))) := by
  cases hc : cellsAt H y with
  | none => exact absurd hc hy
  | some q =>
    obtain ⟨xs, off⟩ := q
    cases y with
    | loc id o =>
      have h1 := cellsAt_spec h hc hr
      simp only [Rep, addA] at hr ⊢
      cases hm : m id with
      | none => rw [hm] at hr; exact hr.elim
      | some p =>
        rw [hm] at hr
        cases p with
        | gone => obtain ⟨p, hp, _⟩ := h1; exact ⟨_, hp, rfl⟩
        | box b => exact ⟨_, hr, by rw [addr_add]⟩
        | arr v' => obtain ⟨g, hg, he⟩ := hr; exact ⟨_, he, g, hg, by rw [addr_add]⟩
        | mp b => exact hr.elim
    | d x =>
      cases x with
      | ref ds =>
        simp only [Rep, RepD, addA] at hr ⊢
        obtain ⟨a, rfl, h1⟩ := hr
        exact ⟨a, rfl, _, rfl, h1.drop k⟩
      | nil => cases hc
      | lit v => cases hc
      | sl n cs => cases hc
      | slc n cs => cases hc
      | mp nl ks cs => cases hc
    | _ => cases hc
theorem op_faddr {t : TypeId} {x : Operand} {f k : Nat} {y : A} (ho : o.op = .fieldAddr t x f) (hy : opA st x = y) (hc : (cellsAt st.H y).isSome = true) (hf : fieldOff P t f = some k) : OpRun P o st (locOf x ++ locA y) (addA k y) [] := by
  refine .pure fun st' hag cx m S a w hs => ?_
  have hr := op_rep hy (R := locOf x ++ locA y) (fun l h => by simp [h]) hag hs
  rw [← locA_agree fun l h => hag l (by simp [h])] at hc
  obtain ⟨p, hp, h2⟩ := addA_rep hs.hold hr (by cases h : cellsAt st'.H y <;> simp_all) k
  refine ⟨_, ?_, h2⟩
  unfold fieldOff at hf
  cases hu : P.underlying t with
  | none => rw [hu] at hf; cases hf
  | some d =>
    cases d with
    | struct fs =>
      rw [hu] at hf
      simp only at hf
      cases hq : fs[f]? with
      | none => rw [hq] at hf; cases hf
      | some q =>
        rw [hq] at hf
        simp only at hf
        cases hi : P.info? q.type with
        | none => rw [hi] at hf; cases hf
        | some i =>
          rw [hi] at hf
          cases hz : i.size with
          | zero => simp only [hz] at hf; cases hf
          | succ z =>
            simp only [hz, Option.some.injEq] at hf
            subst hf
            simp [execOp, ho, Instr.fieldAt, run_underlying hu, hq, Instr.sureAddr, hp, fieldPlace, sizeOf, typeInfo, hi, hz]
    | _ => rw [hu] at hf; cases hf
/-- What a slice reads as: its cells from a place on, and its length. -/
def sliceAt (H : List Blk) : A → Option (List D × Nat × Nat)
  | .own id => match H.getD id .unborn with
    | .arr _ _ n ds => some (ds, 0, n)
    | .fro _ _ n ds => some (ds, 0, n)
    | _ => none
  | .sub id off n => match H.getD id .unborn with
    | .arr _ _ _ ds => some (ds, off, n)
    | .fro _ _ _ ds => some (ds, off, n)
    | _ => none
  | .d (.sl n ds) => some (ds, 0, n)
  | .d .nil => some ([], 0, 0)
  | _ => none
theorem sliceA_agree {st st' : St} {y : A} (h : ∀ l ∈ locA y, st'.at l = st.at l) : sliceAt st'.H y = sliceAt st.H y := by
  cases y with
  | own id =>
    have := blk_agree (st := st) (st' := st') (ids := [id]) (by simpa [blks, locA] using h) (id := id) (by simp)
    simp only [sliceAt, this]
  | sub id off n =>
    have := blk_agree (st := st) (st' := st') (ids := [id]) (by simpa [blks, locA] using h) (id := id) (by simp)
    simp only [sliceAt, this]
  | d x => cases x <;> rfl
  | _ => rfl
def CellsD (S : Nat → Prop) (w : World) (a : Option Addr) (off : Nat) (ds : List D) : Prop := ∀ (i : Nat) (x : D), ds[off + i]? = some x → ∃ p u, a = some p ∧ w.cell? (p.add i) = some u ∧ u.oneCell' = true ∧ RepD S w x u
theorem rowD {S : Nat → Prop} {w : World} {e sz n : Nat} {ds : List D} {v : Value} (h : RowOK S w e sz n ds v) {g : Nat} (hg : v.ownBlock = some g) (off : Nat) : CellsD S w (some ⟨g, off, none⟩) off ds := by
  intro i x hx
  obtain ⟨u, h1, h2, h3⟩ := row_cells (m := fun _ => none) h hg (off + i) (.d x) (by rw [List.getElem?_map, hx]; rfl)
  rw [addr_add, Nat.zero_add] at h1
  exact ⟨_, u, rfl, by rw [addr_add]; exact h1, h2, by simpa only [Rep] using h3⟩
theorem row_slice {S : Nat → Prop} {w : World} {e sz n : Nat} {ds : List D} {v : Value} (h : RowOK S w e sz n ds v) : ∃ a cap, v = .slice a n cap ∧ n ≤ cap ∧ cap ≤ maxLen ∧ (a = none → n = 0 ∧ cap = 0) ∧ CellsD S w a 0 ds ∧ (∀ p, a = some p → ∃ g, p = ⟨g, 0, none⟩ ∧ v.ownBlock = some g) := by
  have h' := h
  obtain ⟨cells, ⟨hl, ⟨rfl, rfl⟩ | ⟨g, cap, cur, rfl, _, hh, hn, hm, hs, ht⟩⟩, hr, h1⟩ := h
  · have : ds = [] := List.eq_nil_of_length_eq_zero (by rw [← hr.1, hl]; simp)
    subst this
    exact ⟨none, 0, rfl, Nat.le_refl _, Nat.zero_le _, fun _ => ⟨rfl, rfl⟩, fun i x hx => by simp at hx, fun p hp => by cases hp⟩
  · exact ⟨_, cap, rfl, hn, hm, (fun h => by cases h), rowD h' rfl 0, fun p hp => ⟨g, by cases hp; rfl, rfl⟩⟩
theorem sliceAt_spec {cx : Cx} {m : Mp} {S : Nat → Prop} {w : World} {H : List Blk} (h : Hold cx m S w H) {y : A} {v : Value} {ds : List D} {off n : Nat} (hc : sliceAt H y = some (ds, off, n)) (hv : Rep m S w y v) :
    ∃ a cap, v = .slice a n cap ∧ n ≤ cap ∧ cap ≤ maxLen ∧ (a = none → n = 0 ∧ cap = 0) ∧ CellsD S w a off ds := by
  cases y with
  | own id =>
    simp only [sliceAt] at hc
    have hok := h.ok id
    split at hc
    · rename_i e sz n' ds' hb
      cases hc
      rw [hb] at hok
      obtain ⟨v', h1, h2, h3⟩ := hok
      simp only [Rep, h1] at hv
      obtain ⟨rfl, _⟩ := hv
      obtain ⟨a, cap, h4, h5, h6, h7, h8, _⟩ := row_slice h2
      exact ⟨a, cap, h4, h5, h6, h7, h8⟩
    · rename_i e sz n' ds' hb
      cases hc
      rw [hb] at hok
      obtain ⟨v', h1, h2, h3⟩ := hok
      simp only [Rep, h1] at hv
      obtain ⟨rfl, _⟩ := hv
      obtain ⟨a, cap, h4, h5, h6, h7, h8, _⟩ := row_slice h2
      exact ⟨a, cap, h4, h5, h6, h7, h8⟩
    · cases hc
  | sub id o n' =>
    simp only [sliceAt] at hc
    have hok := h.ok id
    split at hc
    · rename_i e sz n' ds' hb
      cases hc
      rw [hb] at hok
      obtain ⟨v', h1, h2, h3⟩ := hok
      simp only [Rep, h1] at hv
      obtain ⟨g, cap, hg, rfl, h4, h5⟩ := hv
      exact ⟨_, cap, rfl, h4, h5, (fun h => by cases h), rowD h2 hg _⟩
    · rename_i e sz n' ds' hb
      cases hc
      rw [hb] at hok
      obtain ⟨v', h1, h2, h3⟩ := hok
      simp only [Rep, h1] at hv
      obtain ⟨g, cap, hg, rfl, h4, h5⟩ := hv
      exact ⟨_, cap, rfl, h4, h5, (fun h => by cases h), rowD h2 hg _⟩
    · cases hc
  | d x =>
    cases x with
    | sl n' cs =>
      simp only [sliceAt] at hc
      cases hc
      simp only [Rep, RepD] at hv
      obtain ⟨a, cap, h1, h2, h3, h4, h5⟩ := hv
      refine ⟨a, cap, h1, h2, h3, h4, fun i x hx => ?_⟩
      obtain ⟨p, u, h6, h7, h8, h9, h10⟩ := RepDs.at ds a 0 h5 i x (by simpa using hx)
      exact ⟨p, u, h6, by simpa using h7, h9, h10⟩
    | nil =>
      simp only [sliceAt] at hc
      cases hc
      simp only [Rep, RepD] at hv
      subst hv
      exact ⟨none, 0, rfl, Nat.le_refl _, Nat.zero_le _, fun _ => ⟨rfl, rfl⟩, fun i x hx => by simp at hx⟩
    | lit v => cases hc
    | ref cs => cases hc
    | slc n cs => cases hc
    | mp nl ks cs => cases hc
  | _ => cases hc
/-- The address of an element. -/
def elemA (k : Nat) : A → A
  | .own id => .loc id k
  | .sub id off _ => .loc id (off + k)
  | .d (.sl _ ds) => .d (.ref (ds.drop k))
  | _ => .top
def sliceElem (P : Program) (t : TypeId) : Option (TypeId × Nat) := match P.underlying t with
  | some (.slice e) => (P.info? e).map fun i => (e, i.size)
  | _ => none
theorem sliceElem_spec {t e sz : Nat} (h : sliceElem P t = some (e, sz)) : P.underlying t = some (.slice e) ∧ ∃ i, P.info? e = some i ∧ i.size = sz := by
  unfold sliceElem at h
  cases hu : P.underlying t with
  | none => rw [hu] at h; cases h
  | some d =>
    rw [hu] at h
    cases d with
    | slice e' =>
      simp only at h
      cases hi : P.info? e' with
      | none => rw [hi] at h; cases h
      | some i => rw [hi] at h; cases h; exact ⟨rfl, i, hi, rfl⟩
    | _ => cases h
theorem elemA_rep {cx : Cx} {m : Mp} {S : Nat → Prop} {w : World} {H : List Blk} (h : Hold cx m S w H) {y : A} {v : Value} {ds : List D} {off n : Nat} (hc : sliceAt H y = some (ds, off, n)) (hv : Rep m S w y v) (hn : 0 < n) (k : Nat) :
    ∃ p cap, v = .slice (some p) n cap ∧ Rep m S w (elemA k y) (.pointer (some (p.add k))) := by
  obtain ⟨a, cap, rfl, h1, h2, h3, h4⟩ := sliceAt_spec h hc hv
  cases a with
  | none => have := (h3 rfl).1; omega
  | some p =>
    refine ⟨p, cap, rfl, ?_⟩
    cases y with
    | own id =>
      simp only [Rep, elemA] at hv ⊢
      have hok := h.ok id
      simp only [sliceAt] at hc
      split at hc
      · rename_i e sz n' ds' hb
        cases hc
        rw [hb] at hok
        obtain ⟨v', h5, h6, _⟩ := hok
        rw [h5] at hv ⊢
        simp only at hv ⊢
        replace hv := hv.1
        obtain ⟨a, cap', h7, _, _, _, _, h8⟩ := row_slice h6
        rw [← hv] at h7 h8
        simp only [Value.slice.injEq] at h7
        obtain ⟨g, h9, h10⟩ := h8 p h7.1.symm
        subst h9
        exact ⟨g, by rw [← hv]; exact h10, by rw [addr_add, Nat.zero_add]⟩
      · rename_i e sz n' ds' hb
        cases hc
        rw [hb] at hok
        obtain ⟨v', h5, h6, _⟩ := hok
        rw [h5] at hv ⊢
        simp only at hv ⊢
        replace hv := hv.1
        obtain ⟨a, cap', h7, _, _, _, _, h8⟩ := row_slice h6
        rw [← hv] at h7 h8
        simp only [Value.slice.injEq] at h7
        obtain ⟨g, h9, h10⟩ := h8 p h7.1.symm
        subst h9
        exact ⟨g, by rw [← hv]; exact h10, by rw [addr_add, Nat.zero_add]⟩
      · cases hc
    | sub id o n' =>
      simp only [Rep, elemA] at hv ⊢
      cases hm : m id with
      | none => rw [hm] at hv; exact hv.elim
      | some q =>
        rw [hm] at hv
        cases q with
        | gone => rfl
        | box b => exact hv.elim
        | arr v' =>
          obtain ⟨g, cap', hg, he, _⟩ := hv
          simp only [Value.slice.injEq, Option.some.injEq] at he
          obtain ⟨rfl, _, _⟩ := he
          exact ⟨g, hg, by rw [addr_add]⟩
        | mp b => exact hv.elim
    | d x =>
      cases x with
      | sl n' cs =>
        simp only [Rep, RepD, elemA] at hv ⊢
        obtain ⟨a, cap', h5, _, _, _, h6⟩ := hv
        simp only [Value.slice.injEq] at h5
        rw [← h5.1] at h6
        exact ⟨_, rfl, h6.drop k⟩
      | nil => simp only [sliceAt] at hc; cases hc; omega
      | lit v => cases hc
      | ref cs => cases hc
      | slc n cs => cases hc
      | mp nl ks cs => cases hc
    | _ => cases hc
theorem op_iaddr {t e sz : Nat} {x ix : Operand} {y : A} {ds : List D} {off n i : Nat} {k : IntKind} {iv : Int} (ho : o.op = .indexAddr t x ix) (hy : opA st x = y) (hc : sliceAt st.H y = some (ds, off, n)) (he : sliceElem P t = some (e, sz))
    (hi : opA st ix = .d (.lit (.int k iv))) (hiv : iv = (i : Int)) (hin : i < n) : OpRun P o st (locsOf [x, ix] ++ locA y) (elemA (i * sz) y) [] := by
  refine .pure fun st' hag cx m S a w hs => ?_
  have hr := op_rep hy (R := locsOf [x, ix] ++ locA y) (fun l h => by simp [locsOf, h]) hag hs
  have hix := op_lit hi (R := locsOf [x, ix] ++ locA y) (fun l h => by simp [locsOf, h]) hag hs
  rw [← sliceA_agree fun l h => hag l (by simp [h])] at hc
  obtain ⟨p, cap, hv, hrep⟩ := elemA_rep hs.hold hc hr (by omega) (i * sz)
  obtain ⟨hu, inf, hinf, hsz⟩ := sliceElem_spec he
  refine ⟨_, ?_, hrep⟩
  subst hiv
  have h0 : (0 : Int) ≤ i ∧ (i : Int) < n := by omega
  simp [execOp, ho, Instr.indexAt, hix, asIntOf, run_underlying hu, hv, sizeOf, typeInfo, hinf, hsz, hin]
end
end Go.Proofs.Ytelhmhmgaaebpaa.K

namespace Go.Proofs.Ytelhmhmgaaebpaa.K
open Go.RowKit

def A.one : A → Bool
  | .d _ => true
  | .loc _ _ => true
  | .own _ => true
  | .sub _ _ _ => true
  | .clo _ _ _ => true
  | _ => false
theorem repD_one {S : Nat → Prop} {w : World} {x : D} {v : Value} (h : RepD S w x v) : v.oneCell' = true := by
  cases x with
  | nil => simp only [RepD] at h; subst h; rfl
  | lit u => simp only [RepD] at h; rw [h.1]; exact h.2
  | sl n cs => simp only [RepD] at h; obtain ⟨a, cap, rfl, _⟩ := h; rfl
  | ref cs => simp only [RepD] at h; obtain ⟨a, rfl, _⟩ := h; rfl
  | slc n cs => simp only [RepD] at h; obtain ⟨a, rfl, _⟩ := h; rfl
  | mp nl ks cs => simp only [RepD] at h; rcases h with ⟨_, rfl, _⟩ | ⟨_, b, es, ck, rfl, _⟩ <;> rfl
theorem rep_one {m : Mp} {S : Nat → Prop} {w : World} {x : A} {v : Value} (ho : x.one = true) (h : Rep m S w x v) : v.oneCell' = true := by
  cases x with
  | d x => simp only [Rep] at h; exact repD_one h
  | clo fn f c => simp only [Rep] at h; obtain ⟨vs, cs, rfl, _⟩ := h; rfl
  | top => cases ho
  | agg xs => cases ho
  | tup xs => cases ho
  | ab p => cases ho
  | loc id off =>
    simp only [Rep] at h
    cases hm : m id with
    | none => rw [hm] at h; exact h.elim
    | some p =>
      rw [hm] at h
      cases p with
      | gone => exact h
      | box b => simp only at h; subst h; rfl
      | arr v => obtain ⟨g, _, rfl⟩ := h; rfl
      | mp b => exact h.elim
  | own id =>
    simp only [Rep] at h
    cases hm : m id with
    | none => rw [hm] at h; exact h.elim
    | some p =>
      rw [hm] at h
      cases p with
      | gone => exact h
      | box b => exact h.elim
      | arr v => exact h.2
      | mp b => simp only at h; subst h; rfl
  | sub id off n =>
    simp only [Rep] at h
    cases hm : m id with
    | none => rw [hm] at h; exact h.elim
    | some p =>
      rw [hm] at h
      cases p with
      | gone => exact h
      | box b => exact h.elim
      | arr v => obtain ⟨g, cap, _, rfl, _⟩ := h; rfl
      | mp b => exact h.elim
def allOne : List A → Bool
  | [] => true
  | x :: xs => match x.one with | true => allOne xs | false => false
theorem allOne_mem : ∀ {xs : List A}, allOne xs = true → ∀ x ∈ xs, x.one = true
  | [], _, x, hx => by cases hx
  | y :: ys, h, x, hx => by
    simp only [allOne] at h
    cases hy : y.one with
    | false => rw [hy] at h; cases h
    | true =>
      rw [hy] at h
      rcases List.mem_cons.1 hx with rfl | hx
      · exact hy
      · exact allOne_mem h x hx
/-- The cells of a value. -/
def cellsOf : A → Option (List A)
  | .agg xs => match allOne xs with | true => some xs | false => none
  | x => match x.one with | true => some [x] | false => none
theorem cellsOf_spec {m : Mp} {S : Nat → Prop} {w : World} {x : A} {ys : List A} {v : Value} (h : cellsOf x = some ys) (hv : Rep m S w x v) : Reps m S w ys v.cells.toList ∧ ones v.cells.toList := by
  have key : ∀ (y : A), (match y.one with | true => some [y] | false => none) = some ys → Rep m S w y v → Reps m S w ys v.cells.toList ∧ ones v.cells.toList := fun y hy hr => by
    cases ho : y.one with
    | false => rw [ho] at hy; cases hy
    | true =>
      rw [ho] at hy; cases hy
      have h1 := rep_one ho hr
      have : v.cells = #[v] := by cases v <;> first | rfl | cases h1
      rw [this]
      exact ⟨by simp only [Reps]; exact ⟨v, [], rfl, hr, rfl⟩, fun u hu => by simp at hu; subst hu; exact h1⟩
  cases x with
  | agg xs =>
    simp only [cellsOf] at h
    cases ho : allOne xs with
    | false => rw [ho] at h; cases h
    | true =>
      rw [ho] at h; cases h
      simp only [Rep] at hv
      obtain ⟨vs, rfl, h2⟩ := hv
      refine ⟨h2, fun u hu => ?_⟩
      obtain ⟨i, hi, rfl⟩ := List.getElem_of_mem hu
      have hl := h2.length
      obtain ⟨u', h3, h4⟩ := h2.at i (ys[i]'(by simp only [Value.cells] at hi; omega)) (List.getElem?_eq_getElem _)
      have : vs.toList[i] = u' := by
        have := List.getElem?_eq_getElem (l := vs.toList) (i := i) (by simpa [Value.cells] using hi)
        rw [this] at h3; exact Option.some.inj h3
      show vs.toList[i].oneCell' = true
      rw [this]
      exact rep_one (allOne_mem ho _ (List.getElem_mem _)) h4
  | top => exact key .top h hv
  | d x => exact key (.d x) h hv
  | tup xs => exact key (.tup xs) h hv
  | loc id off => exact key (.loc id off) h hv
  | own id => exact key (.own id) h hv
  | sub id off n => exact key (.sub id off n) h hv
  | clo fn f c => exact key (.clo fn f c) h hv
  | ab p => exact key (.ab p) h hv
/-- Cells put over others from a place on. -/
def putC {α : Type} (xs : List α) (off : Nat) (ys : List α) : List α := xs.take off ++ ys ++ xs.drop (off + ys.length)
theorem Reps.take {m : Mp} {S : Nat → Prop} {w : World} {xs : List A} {vs : List Value} (h : Reps m S w xs vs) (k : Nat) : Reps m S w (xs.take k) (vs.take k) := by
  have hl := h.length
  refine Reps.of (by simp [hl]) fun i x v hx hv => ?_
  rw [List.getElem?_take] at hx hv
  split at hx
  · rename_i hk; rw [if_pos hk] at hv
    obtain ⟨u, h1, h2⟩ := h.at i x hx
    rw [h1] at hv; cases hv; exact h2
  · cases hx
theorem Reps.drop {m : Mp} {S : Nat → Prop} {w : World} {xs : List A} {vs : List Value} (h : Reps m S w xs vs) (k : Nat) : Reps m S w (xs.drop k) (vs.drop k) := by
  have hl := h.length
  refine Reps.of (by simp [hl]) fun i x v hx hv => ?_
  rw [List.getElem?_drop] at hx hv
  obtain ⟨u, h1, h2⟩ := h.at _ x hx
  rw [h1] at hv; cases hv; exact h2
theorem Reps.putC {m : Mp} {S : Nat → Prop} {w : World} {xs ys : List A} {vs us : List Value} (h : Reps m S w xs vs) (k : Reps m S w ys us) (off : Nat) : Reps m S w (putC xs off ys) (putC vs off us) := by
  unfold K.putC
  rw [k.length]
  exact ((h.take off).append k).append (h.drop _)
theorem ones_putC {xs ys : List Value} (h : ones xs) (k : ones ys) (off : Nat) : ones (putC xs off ys) := by
  intro v hv
  unfold putC at hv
  simp only [List.mem_append] at hv
  rcases hv with (hv | hv) | hv
  · exact h v (List.mem_of_mem_take hv)
  · exact k v hv
  · exact h v (List.mem_of_mem_drop hv)
theorem putC_length {α : Type} {xs ys : List α} {off : Nat} (h : off + ys.length ≤ xs.length) : (putC xs off ys).length = xs.length := by simp [putC]; omega
theorem putC_get {α : Type} (xs : List α) (off : Nat) (ys : List α) (i : Nat) (h : off ≤ xs.length) : (putC xs off ys)[i]? = if i < off then xs[i]? else if i < off + ys.length then ys[i - off]? else xs[i]? := by
  unfold putC
  rw [List.append_assoc, List.getElem?_append, List.length_take, Nat.min_eq_left h]
  split
  · rename_i hi; rw [List.getElem?_take, if_pos hi]
  · rename_i hi
    rw [List.getElem?_append]
    split
    · rename_i h2; rw [if_pos (by omega)]
    · rename_i h2
      rw [if_neg (by omega), List.getElem?_drop]
      congr 1; omega
theorem putC_take {α : Type} (xs : List α) (off : Nat) (ys : List α) (k : Nat) (h : off + ys.length ≤ k) (hk : k ≤ xs.length) : (putC xs off ys).take k = putC (xs.take k) off ys := by
  apply List.ext_getElem?
  intro i
  rw [putC_get _ _ _ _ (by simp; omega), List.getElem?_take, List.getElem?_take]
  by_cases hi : i < k
  · rw [if_pos hi, if_pos hi, putC_get _ _ _ _ (by omega)]
  · rw [if_neg hi, if_neg hi, if_neg (by omega), if_neg (by omega)]
def sizeT (P : Program) (t : TypeId) : Option Nat := (P.info? t).map (·.size)
theorem sizeT_spec {P : Program} {t : TypeId} {n : Nat} (h : sizeT P t = some n) : ∃ i, P.info? t = some i ∧ i.size = n := by
  unfold sizeT at h
  cases hi : P.info? t with
  | none => rw [hi] at h; cases h
  | some i => rw [hi] at h; cases h; exact ⟨i, rfl, rfl⟩

section
variable {P : Program} {o : Oper} {st : St}
theorem OpRun.skip {R : List Loc} {bl : List (Nat × Blk)} (h : ∀ st' : St, (∀ l ∈ R, st'.at l = st.at l) → ∀ (cx : Cx) (m : Mp) (S : Nat → Prop) (a : Act) (w : World), Sim cx m S a w st' →
    ∃ w' m' S', (execOp a.eval o).run P w = .ok .skip w' ∧ Le m m' ∧ (∀ b, S b → S' b) ∧ Keeps S w w' ∧ Hold cx m' S' w' (putB st'.H bl)) : OpRun P o st R (.tup []) bl := by
  intro st' hl _ cx m S a w hs
  obtain ⟨w', m', S', h1, h2, h3, h4, h5⟩ := h st' hl cx m S a w hs
  rw [h1]
  exact ⟨m', S', h2, h3, h4, h5, by simp only [Rep, Reps]; exact ⟨_, rfl, rfl⟩⟩
theorem OpRun.value {R : List Loc} {bl : List (Nat × Blk)} {val : A} (h : ∀ st' : St, (∀ l ∈ R, st'.at l = st.at l) → ∀ (cx : Cx) (m : Mp) (S : Nat → Prop) (a : Act) (w : World), Sim cx m S a w st' →
    ∃ v w' m' S', (execOp a.eval o).run P w = .ok (.value v) w' ∧ Le m m' ∧ (∀ b, S b → S' b) ∧ Keeps S w w' ∧ Hold cx m' S' w' (putB st'.H bl) ∧ Rep m' S' w' val v) : OpRun P o st R val bl := by
  intro st' hl _ cx m S a w hs
  obtain ⟨v, w', m', S', h1, h2, h3, h4, h5, h6⟩ := h st' hl cx m S a w hs
  rw [h1]
  exact ⟨m', S', h2, h3, h4, h5, h6⟩
theorem run_storeV {t : TypeId} {g off n : Nat} {cur : Array Value} {T : TypeId} {v : Value} {w : World} (hg : RowAt w g cur T) (hn : sizeT P t = some n) (hv : v.cells.size = n) (hfit : off + n ≤ cur.size) (h1 : ones v.cells.toList) :
    (storeVar t ⟨g, off, none⟩ v).run P w = .ok () (w.setRow g (putC cur.toList off v.cells.toList).toArray) := by
  obtain ⟨i, hi, hsz⟩ := sizeT_spec hn
  have hst := run_storeCells_row P g off T v.cells.toList 0 cur w hg (by simp; omega) h1
  simp only [Nat.add_zero] at hst
  simp [storeVar, sizeOf, typeInfo, hi, hsz, hv, hst, putC]
/-- 'store' into a variable. -/
theorem op_store {t : TypeId} {x y : Operand} {id off : Nat} {xs ys : List A} {v : A} (ho : o.op = .store t x y) (hx : opA st x = .loc id off) (hb : st.H.getD id .unborn = .box xs) (hy : opA st y = v) (hys : cellsOf v = some ys) (hn : sizeT P t = some ys.length) (hfit : off + ys.length ≤ xs.length) :
    OpRun P o st (locsOf [x, y] ++ [.blk id]) (.tup []) [(id, .box (putC xs off ys))] := by
  refine .skip fun st' hag cx m S a w hs => ?_
  have hr := op_rep hx (R := locsOf [x, y] ++ [.blk id]) (fun l h => by simp [locsOf, h]) hag hs
  have hv := op_rep hy (R := locsOf [x, y] ++ [.blk id]) (fun l h => by simp [locsOf, h]) hag hs
  have hb' : st'.H.getD id .unborn = .box xs := (blk_agree (st := st) (st' := st') (ids := [id]) (fun l h => hag l (by simp [blks] at h; simp [h])) (by simp)).trans hb
  have hok := hs.hold.ok id
  rw [hb'] at hok
  obtain ⟨b, cells, T, h1, h2, h3, h4, h5⟩ := hok
  simp only [Rep, h1] at hr
  obtain ⟨h6, h7⟩ := cellsOf_spec hys hv
  have hlen := h6.length
  have hlx := h3.length
  have hrun := run_storeV (P := P) (t := t) (off := off) (RowAt.of h2) hn (by simpa using hlen) (by simp at hlx; omega) h7
  have hw := hs.hold.write (w' := w.setRow b (putC cells.toList off (a.eval y).cells.toList).toArray) (b := .box (putC xs off ys)) h1 rfl h5 rfl rfl rfl (by simp [World.setRow])
    (fun k hk hne => setRow_other w b k _ hne) (fun hK => ⟨b, _, T, h1, setRow_heap w b cells _ T _ h2, by simpa using (Reps.mono (Le.refl m) (fun _ h => h) hK _ _ h3).putC (Reps.mono (Le.refl m) (fun _ h => h) hK _ _ h6) off, by simpa using ones_putC h4 h7 off, h5⟩)
  refine ⟨_, m, S, ?_, Le.refl m, fun _ h => h, hw.1, hw.2⟩
  simp [execOp, ho, Instr.storeAt, Instr.sureAddr, hr, hrun]
theorem rowOK_put {S : Nat → Prop} {w : World} {e sz n : Nat} {ds es : List D} {g : Nat} {v : Value} {us : List Value} {off : Nat} (h : RowOK S w e sz n ds v) (hg : v.ownBlock = some g) (hu : RepsD S w es us) (h1 : ones us) (hfit : off + es.length ≤ ds.length) :
    ∃ cur T, RowAt w g cur T ∧ off + us.length ≤ cur.size ∧ ∀ {S' : Nat → Prop} {w' : World}, (∀ fz, w.heap[g]? = some (.cells cur T fz) → w'.heap[g]? = some (.cells (putC cur.toList off us).toArray T fz)) → (∀ b, S b → S' b) → Keeps S w w' → RowOK S' w' e sz n (putC ds off es) v := by
  obtain ⟨cells, ⟨hl, ⟨rfl, rfl⟩ | ⟨g', cap, cur, rfl, hB, hh, hn, hm, hs, ht⟩⟩, hr, h2⟩ := h
  · simp [Value.ownBlock] at hg
  · simp only [Value.ownBlock, Option.some.injEq] at hg
    subst hg
    have hcl : cells.length ≤ cur.size := by rw [← ht]; simp; omega
    have hlu := hu.1
    have hlr := hr.1
    refine ⟨cur, e, hh, by omega, fun {S' w'} hw' hS hK => ⟨putC cells off us, ⟨?_, .inr ⟨g', cap, _, rfl, hB, hh.put (by simp only [List.size_toArray]; rw [putC_length (by simp; omega)]; simp) hw', hn, hm, ?_, ?_⟩⟩, ?_, ones_putC h2 h1 off⟩⟩
    · rw [putC_length (by omega)]; exact hl
    · simp only [List.size_toArray]
      rw [putC_length (by simp; omega)]; simpa using hs
    · simp only []
      rw [putC_take _ _ _ _ (by omega) (by have := Nat.mul_le_mul_right sz hn; simp; omega), ht]
    · refine ⟨by rw [putC_length (by omega), putC_length (by omega)]; exact hlr, fun i x v hx hv => ?_⟩
      have k1 := hr.mono hS hK
      have k2 := hu.mono hS hK
      rw [putC_get _ _ _ _ (by omega)] at hx hv
      rw [hlu] at hv
      split at hx
      · rename_i hi; rw [if_pos hi] at hv; exact k1.2 i x v hx hv
      · rename_i hi
        rw [if_neg hi] at hv
        split at hx
        · rename_i hi2; rw [if_pos hi2] at hv; exact k2.2 _ x v hx hv
        · rename_i hi2; rw [if_neg hi2] at hv; exact k1.2 i x v hx hv
/-- 'store' into a row of our own. -/
theorem op_storeRow {t : TypeId} {x y : Operand} {id off e sz n : Nat} {ds es : List D} {ys : List A} {v : A} (ho : o.op = .store t x y) (hx : opA st x = .loc id off) (hb : st.H.getD id .unborn = .arr e sz n ds) (hy : opA st y = v) (hys : cellsOf v = some ys) (hes : toDs ys = some es)
    (hn : sizeT P t = some ys.length) (hfit : off + es.length ≤ ds.length) : OpRun P o st (locsOf [x, y] ++ [.blk id]) (.tup []) [(id, .arr e sz n (putC ds off es))] := by
  refine .skip fun st' hag cx m S a w hs => ?_
  have hr := op_rep hx (R := locsOf [x, y] ++ [.blk id]) (fun l h => by simp [locsOf, h]) hag hs
  have hv := op_rep hy (R := locsOf [x, y] ++ [.blk id]) (fun l h => by simp [locsOf, h]) hag hs
  have hb' : st'.H.getD id .unborn = .arr e sz n ds := (blk_agree (st := st) (st' := st') (ids := [id]) (fun l h => hag l (by simp [blks] at h; simp [h])) (by simp)).trans hb
  have hok := hs.hold.ok id
  rw [hb'] at hok
  obtain ⟨v', h1, h2, h3⟩ := hok
  simp only [Rep, h1] at hr
  obtain ⟨g, hg, hr⟩ := hr
  obtain ⟨h6, h7⟩ := cellsOf_spec hys hv
  have h8 := toDs_reps hes h6
  obtain ⟨cur, T, h9, h10, h11⟩ := rowOK_put h2 hg h8 h7 hfit
  have hlen := h6.length
  have hrun := run_storeV (P := P) (t := t) (off := off) h9 hn (by simpa using hlen) (by rw [← hlen]; exact h10) h7
  have hw := hs.hold.write (w' := w.setRow g (putC cur.toList off (a.eval y).cells.toList).toArray) (b := .arr e sz n (putC ds off es)) h1 hg (h3 g hg) rfl rfl rfl (by simp [World.setRow])
    (fun k hk hne => setRow_other w g k _ hne) (fun hK => ⟨v', h1, h11 (fun fz h => setRow_heap w g cur _ T fz h) (fun _ h => h) hK, h3⟩)
  refine ⟨_, m, S, ?_, Le.refl m, fun _ h => h, hw.1, hw.2⟩
  simp [execOp, ho, Instr.storeAt, Instr.sureAddr, hr, hrun]
/-- A new variable. -/
theorem hold_box {cx : Cx} {m : Mp} {S : Nat → Prop} {w : World} {H : List Blk} {id : Nat} (h : Hold cx m S w H) (hid : H.getD id .unborn = .unborn) {ys : List A} {cells : Array Value} (hr : Reps m S w ys cells.toList) (h1 : ones cells.toList) (t : TypeId) :
    ∃ m', Le m m' ∧ Keeps S w (w.alloc (.cells cells t)) ∧ Hold cx m' S (w.alloc (.cells cells t)) (setAt H id (.box ys)) ∧ ∀ w', Rep m' S w' (.loc id 0) (.pointer (some ⟨w.heap.size, 0, none⟩)) := by
  have := h.alloc hid (.box w.heap.size) rfl (.cells cells t) (.box ys) fun hK hLe => ⟨w.heap.size, cells, t, by simp [updM], heap_alloc_new w _, Reps.mono hLe (fun _ h => h) hK _ _ hr, h1, fun hS => by have := (h.s _ hS).2; omega⟩
  exact ⟨_, this.1, this.2.1, this.2.2, fun w' => by simp [Rep, updM]⟩
def zeroA (P : Program) (t : TypeId) : Option (List A) := match P.info? t with
  | some i => match i.zero with
    | some z => match z.cells.toList.all (·.oneCell') with | true => some (z.cells.toList.map litA) | false => none
    | none => none
  | none => none
theorem zeroA_spec {t : TypeId} {ys : List A} (h : zeroA P t = some ys) : ∃ i z, P.info? t = some i ∧ i.zero = some z ∧ ones z.cells.toList ∧ ys = z.cells.toList.map litA := by
  unfold zeroA at h
  cases hi : P.info? t with
  | none => rw [hi] at h; cases h
  | some i =>
    rw [hi] at h
    simp only at h
    cases hz : i.zero with
    | none => rw [hz] at h; cases h
    | some z =>
      rw [hz] at h
      simp only at h
      cases ha : z.cells.toList.all (·.oneCell') with
      | false => rw [ha] at h; cases h
      | true => rw [ha] at h; cases h; exact ⟨i, z, rfl, hz, fun v hv => List.all_eq_true.1 ha v hv, rfl⟩
theorem op_alloc {t id : Nat} {ys : List A} (ho : o.op = .alloc t) (hz : zeroA P t = some ys) (hid : st.H.getD id .unborn = .unborn) : OpRun P o st [.blk id] (.loc id 0) [(id, .box ys)] := by
  refine .value fun st' hag cx m S a w hs => ?_
  have hid' : st'.H.getD id .unborn = .unborn := (blk_agree (st := st) (st' := st') (ids := [id]) (fun l h => hag l (by simpa [blks] using h)) (by simp)).trans hid
  obtain ⟨i, z, hi, hzz, h1, rfl⟩ := zeroA_spec hz
  obtain ⟨m', h2, h3, h4, h5⟩ := hold_box hs.hold hid' (litAs_rep (m := m) (S := S) (w := w) z.cells.toList) h1 t
  refine ⟨_, _, m', S, ?_, h2, fun _ h => h, h3, h4, h5 _⟩
  simp [execOp, ho, Instr.alloc, zeroValue, typeInfo, hi, hzz, newVar, newRow]
theorem op_box {t id : Nat} {x : Operand} {y : A} {ys : List A} (ho : o.op = .box t x) (hx : opA st x = y) (hys : cellsOf y = some ys) (hid : st.H.getD id .unborn = .unborn) : OpRun P o st (locOf x ++ [.blk id]) (.loc id 0) [(id, .box ys)] := by
  refine .value fun st' hag cx m S a w hs => ?_
  have hid' : st'.H.getD id .unborn = .unborn := (blk_agree (st := st) (st' := st') (ids := [id]) (fun l h => hag l (by simp [blks] at h; simp [h])) (by simp)).trans hid
  have hr := op_rep hx (R := locOf x ++ [.blk id]) (fun l h => by simp [h]) hag hs
  obtain ⟨h6, h7⟩ := cellsOf_spec hys hr
  obtain ⟨m', h2, h3, h4, h5⟩ := hold_box hs.hold hid' h6 h7 t
  refine ⟨_, _, m', S, ?_, h2, fun _ h => h, h3, h4, h5 _⟩
  simp [execOp, ho, Instr.box, newVar, newRow]
/-- A new row. -/
theorem hold_row {cx : Cx} {m : Mp} {S : Nat → Prop} {w : World} {H : List Blk} {id : Nat} (h : Hold cx m S w H) (hid : H.getD id .unborn = .unborn) {e sz n : Nat} {ds : List D} {us : List Value} {cur : Array Value} {cap : Nat} (hr : RepsD S w ds us) (h1 : ones us)
    (hl : us.length = n * sz) (hn : n ≤ cap) (hm : cap ≤ maxLen) (hs : cur.size = cap * sz) (ht : cur.toList.take (n * sz) = us) :
    ∃ m', Le m m' ∧ Keeps S w (w.alloc (.cells cur e)) ∧ Hold cx m' S (w.alloc (.cells cur e)) (setAt H id (.arr e sz n ds)) ∧ ∀ w', Rep m' S w' (.own id) (.slice (some ⟨w.heap.size, 0, none⟩) n cap) := by
  have := h.alloc hid (.arr (.slice (some ⟨w.heap.size, 0, none⟩) n cap)) rfl (.cells cur e) (.arr e sz n ds) fun hK hLe =>
    ⟨_, by simp [updM], ⟨us, ⟨hl, .inr ⟨w.heap.size, cap, cur, rfl, Nat.zero_le _, RowAt.of (heap_alloc_new w _), hn, hm, hs, ht⟩⟩, hr.mono (fun _ h => h) hK, h1⟩, fun g hg hS => by
      simp only [Value.ownBlock, Option.some.injEq] at hg; subst hg; have := (h.s _ hS).2; omega⟩
  exact ⟨_, this.1, this.2.1, this.2.2, fun w' => by simp [Rep, updM, Value.oneCell']⟩
end
end Go.Proofs.Ytelhmhmgaaebpaa.K

namespace Go.Proofs.Ytelhmhmgaaebpaa.K
open Go.RowKit

/-! ### literals -/
def fillA (place : List (Nat × Nat)) : List A → List (Nat × A) → Option (List A)
  | ys, [] => some ys
  | ys, (i, x) :: rest => match place[i]?, cellsOf x with
    | some (off, size), some cs => match Nat.beq cs.length size, Nat.ble (off + cs.length) ys.length with
      | true, true => fillA place (putC ys off cs) rest
      | _, _ => none
    | _, _ => none
theorem fold_put : ∀ (vs : List Value) (k : Nat) (cells : Array Value) (off : Nat), off + k + vs.length ≤ cells.size →
    ((vs.zipIdx k).foldl (fun cs (p : Value × Nat) => cs.setIfInBounds (off + p.2) p.1) cells).toList = putC cells.toList (off + k) vs
  | [], k, cells, off, h => by simp [putC]
  | v :: vs, k, cells, off, h => by
    simp only [List.zipIdx_cons, List.foldl_cons]
    rw [fold_put vs (k + 1) _ off (by simp at h ⊢; omega)]
    simp only [List.length_cons] at h
    apply List.ext_getElem?
    intro i
    rw [putC_get _ _ _ _ (by simp; omega), putC_get _ _ _ _ (by simp; omega), Array.toList_setIfInBounds, List.getElem?_set]
    simp only [List.length_cons]
    by_cases h1 : i < off + k
    · rw [if_pos (by omega), if_pos h1, if_neg (by omega)]
    · by_cases h2 : i = off + k
      · subst h2
        rw [if_pos (by omega), if_neg h1, if_pos rfl, if_pos (by simp; omega), if_pos (by omega)]
        simp
      · rw [if_neg (by omega), if_neg h1]
        by_cases h3 : i < off + k + (vs.length + 1)
        · rw [if_pos (by omega), if_pos h3]
          obtain ⟨j, rfl⟩ : ∃ j, i = off + k + 1 + j := ⟨i - (off + k + 1), by omega⟩
          rw [show off + k + 1 + j - (off + (k + 1)) = j by omega, show off + k + 1 + j - (off + k) = j + 1 by omega]
          simp
        · rw [if_neg (by omega), if_neg h3, if_neg (by omega)]
section
variable {m : Mp} {S : Nat → Prop} {w : World}
theorem fill_spec {place : List (Nat × Nat)} {pl : Nat → Option (Nat × Nat)} (hpl : ∀ i q, place[i]? = some q → pl i = some q) : ∀ {parts : List (Nat × A)} {vparts : List (Nat × Value)} {ys zs : List A} {cells : Array Value}, fillA place ys parts = some zs →
    Reps m S w ys cells.toList → ones cells.toList → vparts.length = parts.length → (∀ (i k : Nat) (x : A) (v : Nat × Value), parts[i]? = some (k, x) → vparts[i]? = some v → v.1 = k ∧ Rep m S w x v.2) →
    ∃ cells', Instr.fill pl cells vparts = some cells' ∧ Reps m S w zs cells'.toList ∧ ones cells'.toList
  | [], vparts, ys, zs, cells, h, hr, h1, hl, hp => by
    simp only [fillA, Option.some.injEq] at h; subst h
    have : vparts = [] := List.eq_nil_of_length_eq_zero (by simpa using hl)
    subst this
    exact ⟨cells, rfl, hr, h1⟩
  | (k, x) :: parts, [], ys, zs, cells, h, hr, h1, hl, hp => by simp at hl
  | (k, x) :: parts, (k', v) :: vparts, ys, zs, cells, h, hr, h1, hl, hp => by
    obtain ⟨hk, hv⟩ := hp 0 k x (k', v) rfl rfl
    simp only at hk hv
    subst hk
    simp only [fillA] at h
    cases hq : place[k']? with
    | none => rw [hq] at h; simp at h
    | some q =>
      obtain ⟨off, size⟩ := q
      cases hc : cellsOf x with
      | none => rw [hq, hc] at h; simp at h
      | some cs =>
        rw [hq, hc] at h
        simp only at h
        cases hb1 : Nat.beq cs.length size with
        | false => rw [hb1] at h; simp at h
        | true =>
          cases hb2 : Nat.ble (off + cs.length) ys.length with
          | false => rw [hb1, hb2] at h; simp at h
          | true =>
            rw [hb1, hb2] at h
            simp only at h
            have hsz : cs.length = size := Nat.eq_of_beq_eq_true hb1
            have hle : off + cs.length ≤ ys.length := by simpa [Nat.ble_eq] using hb2
            obtain ⟨h2, h3⟩ := cellsOf_spec hc hv
            have hl2 := h2.length
            have hly := hr.length
            have hfold := fold_put v.cells.toList 0 cells off (by simp at hl2 hly ⊢; omega)
            rw [Nat.add_zero] at hfold
            obtain ⟨cells', h4, h5, h6⟩ := fill_spec hpl (cells := v.cells.zipIdx.foldl (fun cs (p : Value × Nat) => cs.setIfInBounds (off + p.2) p.1) cells) h
              (by
                have : (v.cells.zipIdx.foldl (fun cs (p : Value × Nat) => cs.setIfInBounds (off + p.2) p.1) cells).toList = putC cells.toList off v.cells.toList := by
                  rw [← hfold, ← Array.foldl_toList, Array.toList_zipIdx]
                rw [this]; exact hr.putC h2 off)
              (by
                have : (v.cells.zipIdx.foldl (fun cs (p : Value × Nat) => cs.setIfInBounds (off + p.2) p.1) cells).toList = putC cells.toList off v.cells.toList := by
                  rw [← hfold, ← Array.foldl_toList, Array.toList_zipIdx]
                rw [this]; exact ones_putC h1 h3 off)
              (by simpa using hl) (fun i k x u hx hu => hp (i + 1) k x u (by simpa using hx) (by simpa using hu))
            refine ⟨cells', ?_, h5, h6⟩
            simp only [Instr.fill, hpl _ _ hq]
            rw [if_neg (by simp at hl2 hly ⊢; omega)]
            exact h4
end
section
variable {P : Program} {o : Oper} {st : St}
def placesOf (P : Program) : List Field → Option (List (Nat × Nat))
  | [] => some []
  | f :: fs => match P.info? f.type, placesOf P fs with | some i, some ps => some ((f.offset, i.size) :: ps) | _, _ => none
theorem places_run : ∀ {fs : List Field} {ps : List (Nat × Nat)} (w : World), placesOf P fs = some ps → (fs.mapM (fun f : Field => (do pure (f.offset, ← sizeOf f.type) : Sem (Nat × Nat)))).run P w = .ok ps w
  | [], ps, w, h => by simp only [placesOf, Option.some.injEq] at h; subst h; simp
  | f :: fs, ps, w, h => by
    simp only [placesOf] at h
    cases hi : P.info? f.type with
    | none => rw [hi] at h; simp at h
    | some i =>
      cases hr : placesOf P fs with
      | none => rw [hi, hr] at h; simp at h
      | some qs =>
        rw [hi, hr] at h; simp only [Option.some.injEq] at h; subst h
        rw [List.mapM_cons]
        have hsz : (sizeOf f.type).run P w = .ok i.size w := info_of hi w
        simp only [Sem.run_bind, hsz, Result.andThen_ok, Sem.run_pure, places_run w hr]
def partsA (st : St) (parts : List (Nat × Operand)) : List (Nat × A) := parts.map fun p => (p.1, opA st p.2)
def partLocs (parts : List (Nat × Operand)) : List Loc := locsOf (parts.map (·.2))
theorem locs_mem : ∀ {xs : List Operand} {x : Operand}, x ∈ xs → ∀ l ∈ locOf x, l ∈ locsOf xs
  | y :: ys, x, hx, l, hl => by
    rcases List.mem_cons.1 hx with rfl | hx
    · simp [locsOf, hl]
    · simp [locsOf, locs_mem hx l hl]
theorem parts_reps {st' : St} {parts : List (Nat × Operand)} {R : List Loc} (hR : ∀ l ∈ partLocs parts, l ∈ R) (hag : ∀ l ∈ R, st'.at l = st.at l) {cx : Cx} {m : Mp} {S : Nat → Prop} {a : Act} {w : World} (hs : Sim cx m S a w st') :
    ∀ (i k : Nat) (x : A) (v : Nat × Value), (partsA st parts)[i]? = some (k, x) → (parts.map fun p => (p.1, a.eval p.2))[i]? = some v → v.1 = k ∧ Rep m S w x v.2 := by
  intro i k x v hx hv
  unfold partsA at hx
  rw [List.getElem?_map] at hx hv
  cases hi : parts[i]? with
  | none => rw [hi] at hx; cases hx
  | some p =>
    rw [hi] at hx hv; cases hx; cases hv
    exact ⟨rfl, op_rep rfl (fun l hl => hR l (locs_mem (List.mem_map.2 ⟨p, List.mem_of_getElem? hi, rfl⟩) l hl)) hag hs⟩
theorem op_build {t : TypeId} {parts : List (Nat × Operand)} {fs : Array Field} {place : List (Nat × Nat)} {zs ys : List A} (ho : o.op = .build t parts.toArray) (hu : P.underlying t = some (.struct fs)) (hp : placesOf P fs.toList = some place) (hz : zeroA P t = some zs)
    (hf : fillA place zs (partsA st parts) = some ys) : OpRun P o st (partLocs parts) (.agg ys) [] := by
  refine .pure fun st' hag cx m S a w hs => ?_
  obtain ⟨i, z, hi, hzz, h1, rfl⟩ := zeroA_spec hz
  have hpl : (fs.mapM (fun f : Field => (do pure (f.offset, ← sizeOf f.type) : Sem (Nat × Nat)))).run P w = .ok place.toArray w := by
    have : fs = fs.toList.toArray := by simp
    rw [this, List.mapM_toArray]
    simp only [Sem.run_map, places_run w hp, Result.andThen_ok]
  obtain ⟨cells, h2, h3, h4⟩ := fill_spec (m := m) (S := S) (w := w) (pl := fun i => place.toArray[i]?) (fun i q h => by simpa using h) (vparts := parts.map fun p => (p.1, a.eval p.2)) hf (litAs_rep z.cells.toList) h1 (by simp [partsA]) (parts_reps (fun _ h => h) hag hs)
  refine ⟨.agg cells, ?_, by simp only [Rep]; exact ⟨_, rfl, h3⟩⟩
  have e : (parts.toArray.map fun p : Nat × Operand => (p.1, a.eval p.2)).toList = parts.map fun p => (p.1, a.eval p.2) := by simp
  simp only [execOp, ho, Instr.build, Sem.run_bind]
  simp only [zeroValue, typeInfo, hi, hzz, Sem.run_bind, run_program, Result.andThen_ok, Sem.run_pure, run_underlying hu]
  erw [hpl]
  simp only [Result.andThen_ok]
  erw [e, h2]
  rfl
end
end Go.Proofs.Ytelhmhmgaaebpaa.K

namespace Go.Proofs.Ytelhmhmgaaebpaa.K
open Go.RowKit

section
variable {P : Program} {o : Oper} {st : St}
theorem blk1 {st' : St} {R : List Loc} {id : Nat} (hR : Loc.blk id ∈ R) (hag : ∀ l ∈ R, st'.at l = st.at l) : st'.H.getD id .unborn = st.H.getD id .unborn :=
  blk_agree (st := st) (st' := st') (ids := [id]) (fun l h => hag l (by simp [blks] at h; subst h; exact hR)) (by simp)
/-! ### slice literals -/
theorem op_buildSlice {t e sz len id : Nat} {parts : List (Nat × Operand)} {zs ys : List A} {ds : List D} (ho : o.op = .buildSlice t len parts.toArray) (he : sliceElem P t = some (e, sz)) (hz : zeroA P e = some zs) (hzl : zs.length = sz) (hsz : 0 < sz)
    (hbig : Nat.ble (len * sz) 16777216 = true) (hf : fillA ((List.range len).map fun i => (i * sz, sz)) (List.replicate (len * sz) .top) (partsA st parts) = some ys) (hd : toDs ys = some ds) (hyl : ys.length = len * sz) (hid : st.H.getD id .unborn = .unborn) :
    OpRun P o st (partLocs parts ++ [.blk id]) (.own id) [(id, .arr e sz len ds)] := by
  refine .value fun st' hag cx m S a w hs => ?_
  have hid' : st'.H.getD id .unborn = .unborn := (blk1 (by simp) hag).trans hid
  obtain ⟨hu, inf, hinf, hsz'⟩ := sliceElem_spec he
  obtain ⟨i, z, hi, hzz, h1, rfl⟩ := zeroA_spec hz
  rw [hinf] at hi; cases hi
  have hzs : z.cells.size = sz := by simpa using hzl
  have hle : len * sz ≤ 16777216 := by simpa [Nat.ble_eq] using hbig
  have ones0 : ones ((Array.range (len * sz)).map (fun k => z.cells[k % z.cells.size]!)).toList := by
    intro v hv
    simp only [Array.toList_map, Array.toList_range, List.mem_map, List.mem_range] at hv
    obtain ⟨k, hk, rfl⟩ := hv
    have hlt : k % z.cells.size < z.cells.size := Nat.mod_lt _ (by omega)
    rw [getElem!_pos z.cells _ hlt]
    exact h1 _ (by simp)
  have reps0 : Reps m S w (List.replicate (len * sz) A.top) ((Array.range (len * sz)).map (fun k => z.cells[k % z.cells.size]!)).toList := Reps.of (by simp) fun j x v hx hv => by
    rw [List.getElem?_replicate] at hx
    split at hx
    · cases hx; simp only [Rep]
    · cases hx
  obtain ⟨cells, h2, h3, h4⟩ := fill_spec (m := m) (S := S) (w := w) (pl := fun i => some (i * sz, sz)) (fun i q h => by
      rw [List.getElem?_map] at h
      cases hr : (List.range len)[i]? with
      | none => rw [hr] at h; cases h
      | some k =>
        rw [hr] at h; cases h
        obtain ⟨hjl, hk⟩ := List.getElem?_eq_some_iff.1 hr
        simp at hk; subst hk; rfl) (vparts := parts.map fun p => (p.1, a.eval p.2)) hf reps0 ones0 (by simp [partsA]) (parts_reps (R := partLocs parts ++ [.blk id]) (fun l h => by simp [h]) hag hs)
  have hl3 := h3.length
  have hlen : cells.size = len * sz := by simp at hl3; omega
  have hmx : len ≤ maxLen := by
    have := Nat.le_mul_of_pos_right len hsz
    unfold maxLen; omega
  obtain ⟨m', k1, k2, k3, k4⟩ := hold_row (e := e) (sz := sz) (n := len) (cap := len) (cur := cells) hs.hold hid' (toDs_reps hd h3) h4 (by simpa using hlen) (Nat.le_refl _) hmx hlen (by rw [List.take_of_length_le (by simp [hlen])])
  refine ⟨_, _, m', S, ?_, k1, fun _ h => h, k2, k3, k4 _⟩
  have ep : (parts.toArray.map fun p : Nat × Operand => (p.1, a.eval p.2)).toList = parts.map fun p => (p.1, a.eval p.2) := by simp
  simp only [execOp, ho, Instr.buildSlice, Sem.run_bind]
  simp only [run_underlying hu, sizeOf, typeInfo, hinf, Sem.run_bind, run_program, Result.andThen_ok, Sem.run_pure, hsz']
  rw [if_neg (by omega)]
  by_cases h0 : len * sz = 0
  · rw [if_pos h0]
    simp only [Sem.run_bind, Sem.run_pure, Result.andThen_ok]
    have e0 : ((Array.range (len * sz)).map (fun k => (#[] : Array Value)[k % (#[] : Array Value).size]!)) = ((Array.range (len * sz)).map (fun k => z.cells[k % z.cells.size]!)) := by
      rw [h0]; simp [Array.range]
    erw [e0, ep, h2]
    simp [newRow]
  · rw [if_neg h0]
    simp only [zeroValue, typeInfo, hinf, hzz, Sem.run_bind, run_program, Result.andThen_ok, Sem.run_pure]
    erw [ep, h2]
    simp [newRow]

/-! ### append -/
structure ElemOK (P : Program) (t e sz by_ : Nat) (z : Value) : Prop where
  slice : P.underlying t = some (.slice e)
  info : (P.info? e).map (fun i => (i.zero, i.size, i.bytes)) = some (some z, sz, by_)
  zs : z.cells.size = sz
  pos : 0 < sz
  byp : 0 < by_
theorem ElemOK.parts {t e sz by_ : Nat} {z : Value} (E : ElemOK P t e sz by_ z) : ∃ i, P.info? e = some i ∧ i.zero = some z ∧ i.size = sz ∧ i.bytes = by_ := by
  have := E.info
  cases hi : P.info? e with
  | none => rw [hi] at this; cases this
  | some i => rw [hi] at this; simp only [Option.map_some, Option.some.injEq, Prod.mk.injEq] at this; exact ⟨i, rfl, this.1, this.2.1, this.2.2⟩
theorem run_append2 {t e sz by_ : Nat} {z : Value} (E : ElemOK P t e sz by_ z) (ty : TypeId) {w : World} {v : Value} {n : Nat} {xs news : List Value} (ho : OwnsR w e sz v n xs) {x : Value} {p : Option Addr} {k c : Nat} (hx : x = .slice p k c) (hpn : p = none → k = 0 ∧ c = 0)
    (hl : news.length = k * sz) (hnews : ∀ q, p = some q → ∀ j u, news[j]? = some u → w.cell? (q.add j) = some u) (h1 : ones news) (hb : (n + k) * by_ ≤ 140737488355328) :
    ∃ v' w', (Builtin.append_ #[t, t] ty #[v, x]).run P w = .ok v' w' ∧ OwnsR w' e sz v' (n + k) (xs ++ news) ∧ w.grownBy w' v.ownBlock ∧ (∀ g, v'.ownBlock = some g → v.ownBlock = some g ∨ w.heap.size ≤ g) := by
  obtain ⟨i, hi, hz, h4, h5⟩ := E.parts
  have hm : n + k ≤ maxLen := by
    have := Nat.le_mul_of_pos_right (n + k) E.byp
    unfold maxLen; omega
  subst hx
  cases p with
  | none =>
    obtain ⟨rfl, rfl⟩ := hpn rfl
    have : news = [] := List.eq_nil_of_length_eq_zero (by simpa using hl)
    subst this
    refine ⟨v, w, ?_, by simpa using ho, World.grownBy.refl _ _, fun g hg => .inl hg⟩
    obtain ⟨hlx, ⟨rfl, rfl⟩ | ⟨g0, cap, cur, rfl, hB, hh, hn, hmc, hs, ht⟩⟩ := ho
    · exact run_append_owned_none (P := P) (w := w) 0 t ty e i sz E.slice hi (.slice none 0 0) 0 xs ⟨hlx, .inl ⟨rfl, rfl⟩⟩
    · simp [Builtin.append_, run_underlying E.slice, sizeOf, typeInfo, hi, Builtin.lenOf, hn, Builtin.firstCells, storeCells]
  | some q =>
    exact run_append_ownR (P := P) w t ty e i z sz by_ E.slice hi hz h4 h5 E.zs E.pos v n xs ho q k c news hl (hnews q rfl) h1 hm hb
/-- A row is grown: by another name. -/
theorem hold_grow {cx : Cx} {m : Mp} {S : Nat → Prop} {w w' : World} {H : List Blk} {id nid : Nat} (h : Hold cx m S w H) {p : Pl} (hp : m id = some p) (hS : ∀ g, p.blk = some g → ¬ S g) (hnid : H.getD nid .unborn = .unborn) (hne : id ≠ nid)
    (hg : w.grownBy w' p.blk) {v' : Value} (hlt : ∀ g, v'.ownBlock = some g → g < w'.heap.size) (hv : ∀ g, v'.ownBlock = some g → p.blk = some g ∨ w.heap.size ≤ g) {b : Blk} (hok : Keeps S w w' → Le m (updM (updM m id .gone) nid (.arr v')) → BlkOK (updM (updM m id .gone) nid (.arr v')) S w' nid b) :
    Le m (updM (updM m id .gone) nid (.arr v')) ∧ Keeps S w w' ∧ Hold cx (updM (updM m id .gone) nid (.arr v')) S w' (setAt (setAt H id .gone) nid b) := by
  have hn : m nid = none := by have := h.ok nid; rw [hnid] at this; exact this
  have hLe : Le m (updM (updM m id .gone) nid (.arr v')) := fun k q hk => by
    by_cases e1 : k = nid
    · subst e1; rw [hn] at hk; cases hk
    · by_cases e2 : k = id
      · right; simp only [updM, e1, e2, if_false, if_true]; rw [if_neg (fun e => e1 (e2.trans e))]
      · left; simp only [updM, e1, e2, if_false]; exact hk
  have := h.change (m' := updM (updM m id .gone) nid (.arr v')) (w' := w') (H' := setAt (setAt H id .gone) nid b) (fun k => k = id ∨ k = nid) hLe hg.os hg.tape hg.output hg.size (fun b hb => by
      by_cases e : some b = p.blk
      · exact .inr ⟨id, p, .inl rfl, hp, e.symm, hS b e.symm⟩
      · exact .inl (hg.block b hb e))
    (fun k hk => by
      simp only [not_or] at hk
      exact ⟨by simp only [updM, hk.1, hk.2, if_false], by rw [getD_setAt, if_neg hk.2, getD_setAt, if_neg hk.1]⟩)
    (fun hK k hk => by
      by_cases e1 : k = nid
      · subst e1; rw [getD_setAt, if_pos rfl]; exact hok hK hLe
      · have e2 : k = id := hk.resolve_right e1
        subst e2
        rw [getD_setAt, if_neg e1, getD_setAt, if_pos rfl]
        simp only [BlkOK, updM, e1, if_false, if_true])
    (fun k q b hk hq hb => by
      by_cases e1 : k = nid
      · subst e1
        simp only [updM, if_true, Option.some.injEq] at hq
        subst hq
        refine ⟨?_, hlt b hb⟩
        rcases hv b hb with h1 | h1
        · exact .inl ⟨id, p, .inl rfl, hp, h1⟩
        · exact .inr h1
      · have e2 : k = id := hk.resolve_right e1
        subst e2
        simp only [updM, e1, if_false, if_true, Option.some.injEq] at hq
        subst hq; cases hb)
    (fun k k' q q' b hk hk' hkk hq hq' hb hb' => by
      have gone : ∀ j r, (j = id ∨ j = nid) → j ≠ nid → updM (updM m id .gone) nid (.arr v') j = some r → r.blk = some b → False := fun j r hj e1 hr hb => by
        have e2 : j = id := hj.resolve_right e1
        subst e2
        simp only [updM, e1, if_false, if_true, Option.some.injEq] at hr
        subst hr; cases hb
      by_cases e1 : k = nid
      · exact gone k' q' hk' (fun e => hkk (e1.trans e.symm)) hq' hb'
      · exact gone k q hk e1 hq hb)
  exact ⟨hLe, this.2, this.1⟩
theorem cells_news {S : Nat → Prop} {w : World} {p : Option Addr} {off : Nat} {ds : List D} (h : CellsD S w p off ds) {es : List D} {k : Nat} (he : (ds.drop off).take k = es) :
    ∃ us : List Value, RepsD S w es us ∧ ones us ∧ ∀ q, p = some q → ∀ j u, us[j]? = some u → w.cell? (q.add j) = some u := by
  have hget : ∀ j, j < es.length → ∃ q u, p = some q ∧ w.cell? (q.add j) = some u ∧ u.oneCell' = true ∧ RepD S w (es[j]?.getD .nil) u := fun j hj => by
    have hx : es[j]? = some es[j] := List.getElem?_eq_getElem hj
    have hx' : ((ds.drop off).take k)[j]? = some es[j] := by rw [he]; exact hx
    rw [List.getElem?_take] at hx'
    split at hx'
    · rw [List.getElem?_drop] at hx'
      obtain ⟨q, u, h1, h2, h3, h4⟩ := h j _ hx'
      exact ⟨q, u, h1, h2, h3, by rw [hx]; exact h4⟩
    · cases hx'
  obtain ⟨f, hf⟩ : ∃ f : Nat → Value, ∀ j, j < es.length → ∃ q, p = some q ∧ w.cell? (q.add j) = some (f j) ∧ (f j).oneCell' = true ∧ RepD S w (es[j]?.getD .nil) (f j) :=
    ⟨fun j => if hj : j < es.length then Classical.choose (Classical.choose_spec (hget j hj)) else undef, fun j hj => by simp only [hj, dif_pos]; exact ⟨_, Classical.choose_spec (Classical.choose_spec (hget j hj))⟩⟩
  have get : ∀ j u, ((List.range es.length).map f)[j]? = some u → j < es.length ∧ u = f j := fun j u hu => by
    rw [List.getElem?_map] at hu
    cases hr : (List.range es.length)[j]? with
    | none => rw [hr] at hu; cases hu
    | some k =>
      rw [hr] at hu; cases hu
      obtain ⟨hjl, hk⟩ := List.getElem?_eq_some_iff.1 hr
      simp at hk hjl; subst hk; exact ⟨hjl, rfl⟩
  refine ⟨(List.range es.length).map f, ⟨by simp, fun j x v hx hv => ?_⟩, fun v hv => ?_, fun q hq j u hu => ?_⟩
  · obtain ⟨hj, rfl⟩ := get j v hv
    obtain ⟨q, _, _, _, h4⟩ := hf j hj
    rw [hx] at h4; exact h4
  · obtain ⟨j, hj, rfl⟩ := List.mem_map.1 hv
    obtain ⟨q, _, _, h3, _⟩ := hf j (by simpa using hj)
    exact h3
  · obtain ⟨hj, rfl⟩ := get j u hu
    obtain ⟨q', h1, h2, _⟩ := hf j hj
    rw [hq] at h1; cases h1; exact h2
theorem ownsRow_lt {w : World} {e sz n : Nat} {v : Value} {xs : List Value} (h : OwnsR w e sz v n xs) : ∀ g, v.ownBlock = some g → g < w.heap.size := fun g hg => h.lt g hg
/-- 'append(s, x...)', s a row of our own. -/
theorem op_append {t e sz by_ id nid n k off : Nat} {z : Value} {s x : Operand} {y : A} {xs ds es : List D} (ho : o.op = .call ⟨.builtin .append, #[s, x], #[t, t]⟩) (E : ElemOK P t e sz by_ z) (hs0 : opA st s = .own id) (hb : st.H.getD id .unborn = .arr e sz n xs) (hx : opA st x = y)
    (hy : sliceAt st.H y = some (ds, off, k)) (he : (ds.drop off).take (k * sz) = es) (hel : es.length = k * sz) (hbytes : (n + k) * by_ ≤ 140737488355328) (hnid : st.H.getD nid .unborn = .unborn) (hne : id ≠ nid) :
    OpRun P o st (locsOf [s, x] ++ (locA y ++ [.blk id, .blk nid])) (.own nid) [(id, .gone), (nid, .arr e sz (n + k) (xs ++ es))] := by
  refine .value fun st' hag cx m S a w hs => ?_
  have hnid' : st'.H.getD nid .unborn = .unborn := (blk1 (by simp) hag).trans hnid
  have hb' : st'.H.getD id .unborn = .arr e sz n xs := (blk1 (by simp) hag).trans hb
  have hrs := op_rep hs0 (R := locsOf [s, x] ++ (locA y ++ [.blk id, .blk nid])) (fun l h => by simp [locsOf, h]) hag hs
  have hrx := op_rep hx (R := locsOf [s, x] ++ (locA y ++ [.blk id, .blk nid])) (fun l h => by simp [locsOf, h]) hag hs
  rw [← sliceA_agree fun l h => hag l (by simp [h])] at hy
  obtain ⟨p, cap, hv, h1, h2, h3, h4⟩ := sliceAt_spec hs.hold hy hrx
  have hok := hs.hold.ok id
  rw [hb'] at hok
  obtain ⟨v, h5, ⟨cells, h6, h7, h8⟩, h9⟩ := hok
  simp only [Rep, h5] at hrs
  obtain ⟨hrs, _⟩ := hrs
  obtain ⟨us, k1, k2, k3⟩ := cells_news h4 he
  have hpn : p = none → k = 0 ∧ cap = 0 := h3
  obtain ⟨v', w', hrun, j1, j2, j3⟩ := run_append2 E o.type h6 hv hpn (by rw [k1.1, hel]) k3 k2 hbytes
  have hold := hold_grow (b := .arr e sz (n + k) (xs ++ es)) hs.hold h5 h9 hnid' hne j2 (ownsRow_lt j1) j3 fun hK hLe => by
    refine ⟨v', by simp only [updM, if_true], ⟨cells ++ us, j1, ?_, fun u hu => ?_⟩, fun g hg hS => ?_⟩
    · have r1 := h7.mono (fun _ h => h) hK
      have r2 := k1.mono (fun _ h => h) hK
      refine ⟨by simp [r1.1, r2.1], fun i x u hx hu => ?_⟩
      rw [List.getElem?_append] at hx hu
      rw [r1.1] at hu
      split at hx
      · rename_i hi; rw [if_pos hi] at hu; exact r1.2 i x u hx hu
      · rename_i hi; rw [if_neg hi] at hu; exact r2.2 _ x u hx hu
    · rcases List.mem_append.1 hu with hu | hu
      · exact h8 u hu
      · exact k2 u hu
    · rcases j3 g hg with h | h
      · exact h9 g h hS
      · have := (hs.hold.s g hS).2; omega
  refine ⟨v', w', _, S, ?_, hold.1, fun _ h => h, hold.2.1, hold.2.2, ?_⟩
  · simp [execOp, ho, resolve, invoke, builtin, hrs, hrun]
  · simp only [Rep, updM, if_true]
    refine ⟨trivial, ?_⟩
    obtain ⟨_, ⟨rfl, _⟩ | ⟨g, cap, cur, rfl, _⟩⟩ := j1 <;> rfl
end
end Go.Proofs.Ytelhmhmgaaebpaa.K

namespace Go.Proofs.Ytelhmhmgaaebpaa.K
open Go.RowKit Go.Lib

def byteD (b : UInt8) : D := .lit (.int .u8 b.toNat)
def bytesD (l : List UInt8) : List D := l.map byteD
@[simp] theorem bytesD_length (l : List UInt8) : (bytesD l).length = l.length := by simp [bytesD]
section
variable {P : Program} {o : Oper} {st : St}
theorem op_len_str {t : TypeId} {x : Operand} {s : ByteArray} (ho : o.op = .call ⟨.builtin .len, #[x], #[t]⟩) (hu : P.underlying t = some .string) (hx : opA st x = .d (.lit (.string s))) : OpRun P o st (locOf x) (.d (.lit (.int .i64 s.size))) [] := by
  refine .pure fun st' hl cx m S a w hs => ⟨.int .i64 s.size, ?_, by simp only [Rep]; unfold RepD; exact ⟨rfl, rfl⟩⟩
  have h1 := op_lit hx (fun _ h => h) hl hs
  simp [execOp, ho, resolve, invoke, builtin, Builtin.len_, run_underlying hu, h1, goInt]
theorem op_len {t e : TypeId} {x : Operand} {y : A} {ds : List D} {off n : Nat} (ho : o.op = .call ⟨.builtin .len, #[x], #[t]⟩) (hu : P.underlying t = some (.slice e)) (hx : opA st x = y) (hy : sliceAt st.H y = some (ds, off, n)) : OpRun P o st (locOf x ++ locA y) (.d (.lit (.int .i64 n))) [] := by
  refine .pure fun st' hag cx m S a w hs => ⟨.int .i64 n, ?_, by simp only [Rep]; unfold RepD; exact ⟨rfl, rfl⟩⟩
  have hr := op_rep hx (R := locOf x ++ locA y) (fun l h => by simp [h]) hag hs
  rw [← sliceA_agree fun l h => hag l (by simp [h])] at hy
  obtain ⟨p, cap, hv, _⟩ := sliceAt_spec hs.hold hy hr
  simp [execOp, ho, resolve, invoke, builtin, Builtin.len_, run_underlying hu, hv, goInt]
theorem op_bi2 {b : Builtin} {t u : TypeId} {x y : Operand} {a1 a2 v : Value} (ho : o.op = .call ⟨.builtin b, #[x, y], #[t, u]⟩) (hx : opA st x = .d (.lit a1)) (hy : opA st y = .d (.lit a2)) (hrun : ∀ ty cs w, (builtin b #[t, u] ty cs #[a1, a2]).run P w = .ok (.value v) w) (h1 : v.oneCell' = true := by rfl) :
    OpRun P o st (locsOf [x, y]) (.d (.lit v)) [] := by
  refine .pure fun st' hl cx m S a w hs => ⟨v, ?_, by simp only [Rep]; unfold RepD; exact ⟨rfl, h1⟩⟩
  have e1 := op_lit hx (R := locsOf [x, y]) (fun l h => by simp [locsOf, h]) hl hs
  have e2 := op_lit hy (R := locsOf [x, y]) (fun l h => by simp [locsOf, h]) hl hs
  simp [execOp, ho, resolve, invoke, e1, e2]
  exact hrun _ _ w
theorem flat_get {α : Type} {l : List α} : ∀ (n i : Nat), i < n * l.length → ((List.replicate n l).flatten)[i]? = l[i % l.length]?
  | 0, i, h => by simp at h
  | n + 1, i, h => by
    rw [List.replicate_succ, List.flatten_cons, List.getElem?_append]
    split
    · rename_i hi; rw [Nat.mod_eq_of_lt hi]
    · rename_i hi
      have hl : l.length ≤ i := by omega
      rw [flat_get n (i - l.length) (by rw [Nat.add_mul] at h; omega), Nat.mod_eq_sub_mod hl]
theorem made_flat (z : Array Value) (n : Nat) (hz : 0 < z.size) : (madeCells z (n * z.size)).toList = (List.replicate n z.toList).flatten := by
  apply List.ext_getElem?
  intro i
  by_cases hi : i < n * z.size
  · rw [flat_get n i (by simpa using hi)]
    have hlt : i % z.size < z.size := Nat.mod_lt _ hz
    simp [madeCells, hi, hlt]
  · rw [List.getElem?_eq_none (by simp [madeCells]; omega), List.getElem?_eq_none (by simp; omega)]
def litD : Value → D
  | .slice none 0 0 => .sl 0 []
  | v => .lit v
theorem litD_rep {S : Nat → Prop} {w : World} {v : Value} (h : v.oneCell' = true) : RepD S w (litD v) v := by
  unfold litD
  split
  · exact RepD.nn (x := .nil) (by simp only [RepD])
  · unfold RepD; exact ⟨rfl, h⟩
/-! ### copy -/
/-! ### strings, bytes -/
theorem op_index_str {t : TypeId} {x ix : Operand} {s : ByteArray} {k : IntKind} {iv : Int} {i : Nat} {b : UInt8} (ho : o.op = .index t x ix) (hu : P.underlying t = some .string) (hx : opA st x = .d (.lit (.string s))) (hi : opA st ix = .d (.lit (.int k iv))) (hiv : iv = (i : Int)) (hb : s.data.toList[i]? = some b) :
    OpRun P o st (locsOf [x, ix]) (.d (.lit (.int .u8 b.toNat))) [] := by
  refine .pure fun st' hl cx m S a w hs => ⟨.int .u8 b.toNat, ?_, by simp only [Rep]; unfold RepD; exact ⟨rfl, rfl⟩⟩
  have e1 := op_lit hx (R := locsOf [x, ix]) (fun l h => by simp [locsOf, h]) hl hs
  have e2 := op_lit hi (R := locsOf [x, ix]) (fun l h => by simp [locsOf, h]) hl hs
  subst hiv
  have hs' : s[i]? = some b := by
    have h1 : i < s.data.toList.length := (List.getElem?_eq_some_iff.1 hb).1
    have h2 : i < s.size := by simpa using h1
    rw [getElem?_pos s i h2, ByteArray.getElem_eq_getElem_data]
    have := (List.getElem?_eq_some_iff.1 hb).2
    simpa using this
  simp [execOp, ho, Instr.index, e1, e2, asIntOf, run_underlying hu, hs']
end
end Go.Proofs.Ytelhmhmgaaebpaa.K
