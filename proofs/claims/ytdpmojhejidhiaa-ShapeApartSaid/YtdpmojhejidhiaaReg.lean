/- A region whose order is drawn, whose operations leave old memory alone: one walk in the order of the text serves every order.
   Each slot that the region fills is known as a value, or by a predicate that stays true as the world grows. -/
import Derived.WalkKit
import Derived.Orders
import Derived.Below
import Derived.KernelRfl
import Derived.Deep.Draws
namespace Go.Proofs.Ytdpmojhejidhiaa
open Go.RowKit
set_option linter.unusedVariables false
set_option linter.unusedSimpArgs false

/-- The world w' holds all that w held. -/
abbrev Ext (w w' : World) : Prop := Below w.heap.size w w'
theorem Ext.refl (w : World) : Ext w w := Below.refl _ _
theorem Ext.trans {a b c : World} (h : Ext a b) (k : Ext b c) : Ext a c := Below.trans h (k.mono h.size)
theorem Ext.drew (w : World) : Ext w w.drew := (Below.refl _ _).drew
theorem Ext.drewN (w : World) (n : Nat) : Ext w (w.drewN n) := ⟨rfl, rfl, rfl, Nat.le_refl _, fun _ _ => rfl⟩
theorem Ext.alloc (w : World) (o : Obj) : Ext w (w.alloc o) := (Below.refl _ _).alloc (Nat.le_refl _) o

abbrev SP := Value → World → Prop
def Stable (F : SP) : Prop := ∀ v w w', F v w → Ext w w' → F v w'

/-- A call hands back a value that meets F, and old memory is as it was. -/
def GP (w : World) (F : SP) (e : Ending) (w' : World) : Prop := ∃ v, e = .returned v ∧ Ext w w' ∧ F v w'
def Gives (P : Program) (f : FuncId) (args : Array Value) (w : World) (F : SP) : Prop := Calls P f args w (GP w F)
theorem Gives.mono {P : Program} {f : FuncId} {args : Array Value} {w : World} {F G : SP} (h : Gives P f args w F) (k : ∀ v w', F v w' → G v w') : Gives P f args w G :=
  Calls.mono h fun _ _ ⟨v, he, hx, hf⟩ => ⟨v, he, hx, k _ _ hf⟩

/-- What is known of a slot. -/
inductive SV where
  | val (c : Value)
  | rep (F : SP) (h : Stable F)
def SV.sp : SV → SP
  | .val c => fun v _ => v = c
  | .rep F _ => F
theorem SV.stable (g : SV) : Stable g.sp := by
  cases g with
  | val c => exact fun _ _ _ h _ => h
  | rep F h => exact h

def lk : List Value → Nat → SV
  | [], _ => .val undef
  | v :: _, 0 => .val v
  | _ :: l, n + 1 => lk l n
def look (tm : List Value) : List (Nat × SV) → Nat → SV
  | [], s => lk tm s
  | (d, g) :: U, s => match Nat.beq d s with | true => g | false => look tm U s
theorem lk_eq (l : List Value) : ∀ s, lk l s = .val (l.toArray.getD s undef) := by
  induction l with
  | nil => intro s; simp [lk]
  | cons v l ih =>
    intro s
    cases s with
    | zero => simp [lk]
    | succ n => rw [lk, ih n]; simp

def env (ρ : Nat → Value) : Operand → Value
  | .tmp t => ρ t
  | .const v => v
  | .global g => .pointer (some ⟨g, 0, none⟩)
  | .func f => .func (.func f) #[] #[]

/-- A call that comes back, with a value and a world that meet R. -/
def CallR (P : Program) (f : FuncId) (args : Array Value) (w : World) (R : Value → World → Prop) : Prop :=
  Calls P f args w (fun e w' => ∃ v, e = .returned v ∧ R v w')
def RunsUpon (P : Program) (R : Value → World → Prop) : Result Next → Prop
  | .ok (.value v) w' => R v w'
  | .ok .skip w' => R undef w'
  | .ok (.enter f args) w' => CallR P f args w' R
  | .ok (.row row args) w' => Rows P row args w' R
  | _ => False
theorem RunsUpon.wp {P : Program} {o : Oper} {a : Act} {w : World} {R : Value → World → Prop} (h : RunsUpon P R ((execOp a.eval o).run P w))
    {K : Act → World → Prop} {Q : Exit → Act → World → Prop} (k : ∀ v w', R v w' → K (a.put o.dst v) w') : o.wp P a w K Q := by
  unfold Oper.wp
  generalize (execOp a.eval o).run P w = r at *
  cases r with
  | ok n w' =>
    cases n <;> simp only [RunsUpon, Oper.upon] at h ⊢
    case value v => exact k _ _ h
    case skip => exact k _ _ h
    case enter f args => exact Calls.mono h fun e w'' ⟨v, he, hr⟩ => by subst he; exact k _ _ hr
    case row row args => exact h.mono fun v w' hr => k _ _ hr
  | halt x w' => cases x <;> simp only [RunsUpon] at h

/-- The guard, read off a frame that is a function. -/
def wantedρ (ops : Array Oper) (ρ : Nat → Value) (o : Oper) : Bool :=
  match o.guard with
  | none => true
  | some (j, want) => match (ops[j]?).bind (·.dst) with
    | some t => (match ρ t with | .bool b => some b | _ => none) == some want
    | none => false

def Act.fn (a : Act) : Nat → Value := fun s => a.tmps.getD s undef
theorem eval_env (a : Act) : a.eval = env (Act.fn a) := by
  funext x
  cases x <;> rfl
theorem wanted_env (ops : Array Oper) (a : Act) (o : Oper) : Region.wanted o (yielded ops a.tmps) = wantedρ ops (Act.fn a) o := by
  unfold Region.wanted wantedρ
  cases hg : o.guard with
  | none => rfl
  | some gw =>
    obtain ⟨j, want⟩ := gw
    simp only [yielded]
    cases ht : (ops[j]?).bind (·.dst) with
    | none => simp
    | some t =>
      simp only [Option.bind_some, Act.fn]
      cases hv : a.tmps[t]? with
      | none => simp [hv, undef]
      | some v => simp [hv]; cases v <;> rfl

section
variable (P : Program) (ops : Array Oper) (w0 : World) (tm : List Value)

/-- One operation's duty: in every later world, what it looks at being as known. -/
def Step (o : Oper) (U : List (Nat × SV)) (g : SV) : Prop :=
  ∀ (ρ : Nat → Value) (w' : World), Ext w0 w' → (∀ s ∈ o.looksAt ops, (look tm U s).sp (ρ s) w') →
    (wantedρ ops ρ o = true → RunsUpon P (fun v w'' => Ext w' w'' ∧ g.sp v w'') ((execOp (env ρ) o).run P w')) ∧
    (wantedρ ops ρ o = false → g.sp undef w')

def fin (w' : World) : List SV → (List Value → Prop) → Prop
  | [], k => k []
  | .val c :: r, k => fin w' r (fun l => k (c :: l))
  | .rep F _ :: r, k => ∀ x, F x w' → fin w' r (fun l => k (x :: l))
theorem fin_spec (w' : World) : ∀ (gs : List SV) (l : List Value) (k : List Value → Prop), gs.length = l.length → (∀ s (h : s < l.length) (h' : s < gs.length), (gs[s]).sp (l[s]) w') → fin w' gs k → k l
  | [], [], _, _, _, h => h
  | [], _ :: _, _, hl, _, _ => by simp at hl
  | _ :: _, [], _, hl, _, _ => by simp at hl
  | g :: gs, v :: l, k, hl, hs, h => by
    have h0 := hs 0 (by simp) (by simp)
    have hr : ∀ s (h : s < l.length) (h' : s < gs.length), (gs[s]).sp (l[s]) w' := fun s h h' => by
      have := hs (s + 1) (by simp; omega) (by simp; omega)
      simpa using this
    cases g with
    | val c =>
      simp only [List.getElem_cons_zero, SV.sp] at h0
      subst h0
      exact fin_spec w' gs l _ (by simpa using hl) hr h
    | rep F _ => exact fin_spec w' gs l _ (by simpa using hl) hr (h v h0)

/-- What is known of all slots behind the walk. -/
def finals (U : List (Nat × SV)) (n : Nat) : List SV := (List.range n).map (look tm U)

/-- The walk, in the text's order; behind it the operations of 'rest', by the plain walk. -/
def wpS (Q : Exit → Act → World → Prop) (defers : List Deferred) (rest : List Oper) : List Oper → List (Nat × SV) → Prop
  | [], U => ∀ w', Ext w0 w' → fin w' (finals tm U tm.length) (fun l => wpList P ops Q rest ⟨l.toArray, defers⟩ w')
  | o :: l, U => ∃ d g, o.dst = some d ∧ d < tm.length ∧ Step P ops w0 tm o U g ∧ wpS Q defers rest l ((d, g) :: U)
end

/-! ### which operation stands behind which -/
def orAll : List Nat → Nat
  | [] => 0
  | x :: l => x ||| orAll l
theorem testBit_orAll {l : List Nat} {j : Nat} (h : (orAll l).testBit j = true) : ∃ x ∈ l, x.testBit j = true := by
  induction l with
  | nil => simp [orAll] at h
  | cons x l ih =>
    rw [orAll, Nat.testBit_or, Bool.or_eq_true] at h
    rcases h with h | h
    · exact ⟨x, by simp, h⟩
    · obtain ⟨y, hy, hb⟩ := ih h; exact ⟨y, by simp [hy], hb⟩
def preAt (pre : List Nat) (o : Oper) : Nat :=
  orAll ((o.after.toList.filter (Region.binds .any)).map fun e => 2 ^ e.on ||| pre.getD e.on 0)
def preGo : List Oper → List Nat → List Nat
  | [], acc => acc
  | o :: l, acc => preGo l (acc ++ [preAt acc o])
def preOf (ops : List Oper) : List Nat := preGo ops []

def namesOf (ops : Array Oper) (o : Oper) : List Tmp := o.dst.toList ++ o.looksAt ops
def dstIs (o : Oper) (s : Tmp) : Bool := match o.dst with | some d => Nat.beq d s | none => false
def chkC (ops : Array Oper) (pre : List Nat) (m i : Nat) (o : Oper) : Bool :=
  (namesOf ops o).all fun s => (List.range m).all fun j => match ops[j]? with
    | some oj => !dstIs oj s || Nat.beq j i || (if j < i then (pre.getD i 0).testBit j else (pre.getD j 0).testBit i)
    | none => true
def isSelect : Op → Bool | .select .. => true | _ => false
/-- THE BOOL over a region: 'm' operations in whatever order, the others behind them in the text's. -/
def chkR (ops : Array Oper) (m : Nat) : Bool :=
  let pre := preOf ops.toList
  (List.range ops.size).all fun i => match ops[i]? with
    | none => false
    | some o =>
      !isSelect o.op && Nat.beq (pre.getD i 0) (preAt pre o) && (o.after.toList.filter (Region.binds .any)).all (fun e => decide (e.on < i)) &&
      (if i < m then chkC ops pre m i o else (List.range i).all fun j => (pre.getD i 0).testBit j)

structure Chk (ops : Array Oper) (m : Nat) (pre : Nat → Nat → Prop) : Prop where
  sel : ∀ (i : Nat) (o : Oper), ops[i]? = some o → ∀ cs b, o.op ≠ .select cs b
  clo : ∀ (i : Nat) (o : Oper) (j : Nat), ops[i]? = some o → pre i j → ∃ e ∈ o.after, Region.binds .any e = true ∧ (e.on = j ∨ pre e.on j)
  lt : ∀ (i : Nat) (o : Oper), ops[i]? = some o → ∀ e ∈ o.after, Region.binds .any e = true → e.on < i
  names : ∀ (i : Nat) (o : Oper) (s j : Nat) (oj : Oper), i < m → ops[i]? = some o → s ∈ namesOf ops o → j < m → ops[j]? = some oj → oj.dst = some s → j ≠ i → (j < i → pre i j) ∧ (i < j → pre j i)
  tail : ∀ (i j : Nat), m ≤ i → i < ops.size → j < i → pre i j

theorem chk_of (ops : Array Oper) (m : Nat) (h : chkR ops m = true) : Chk ops m (fun i j => ((preOf ops.toList).getD i 0).testBit j = true) := by
  have key : ∀ i o, ops[i]? = some o → isSelect o.op = false ∧ (preOf ops.toList).getD i 0 = preAt (preOf ops.toList) o ∧
      (∀ e ∈ o.after, Region.binds .any e = true → e.on < i) ∧
      (if i < m then chkC ops (preOf ops.toList) m i o = true else ∀ j, j < i → ((preOf ops.toList).getD i 0).testBit j = true) := by
    intro i o ho
    have hi : i < ops.size := (Array.getElem?_eq_some_iff.1 ho).1
    have := List.all_eq_true.1 h i (List.mem_range.2 hi)
    simp only [ho, Bool.and_eq_true, Bool.not_eq_true'] at this
    obtain ⟨⟨⟨h1, h2⟩, h3⟩, h4⟩ := this
    refine ⟨h1, Nat.eq_of_beq_eq_true h2, fun e he hb => ?_, ?_⟩
    · have := List.all_eq_true.1 h3 e (List.mem_filter.2 ⟨by simpa using he, hb⟩)
      simpa using this
    · split
      · rename_i him; simpa [him] using h4
      · rename_i him
        simp only [him, if_false] at h4
        exact fun j hj => List.all_eq_true.1 h4 j (List.mem_range.2 hj)
  refine ⟨fun i o ho cs b he => ?_, fun i o j ho hp => ?_, fun i o ho => (key i o ho).2.2.1, fun i o s j oj him ho hs hjm hj hd hne => ?_, fun i j hmi hi hji => ?_⟩
  · have := (key i o ho).1; rw [he] at this; simp [isSelect] at this
  · rw [(key i o ho).2.1] at hp
    obtain ⟨x, hx, hb⟩ := testBit_orAll hp
    obtain ⟨e, he, rfl⟩ := List.mem_map.1 hx
    obtain ⟨he1, he2⟩ := List.mem_filter.1 he
    refine ⟨e, by simpa using he1, he2, ?_⟩
    rw [Nat.testBit_or, Bool.or_eq_true] at hb
    rcases hb with hb | hb
    · left; simpa [Nat.testBit_two_pow] using hb
    · right; exact hb
  · have h4 := (key i o ho).2.2.2
    rw [if_pos him] at h4
    have h5 := List.all_eq_true.1 (List.all_eq_true.1 h4 s hs) j (List.mem_range.2 hjm)
    have hd' : dstIs oj s = true := by simp [dstIs, hd]
    simp only [hj, hd', Bool.not_true, Bool.false_or, Bool.or_eq_true] at h5
    rcases h5 with h5 | h5
    · exact absurd (Nat.eq_of_beq_eq_true h5) hne
    · refine ⟨fun hlt => ?_, fun hlt => ?_⟩
      · rwa [if_pos hlt] at h5
      · rwa [if_neg (by omega)] at h5
  · have ho : ops[i]? = some ops[i] := by simp [hi]
    have h4 := (key i _ ho).2.2.2
    rw [if_neg (by omega)] at h4
    exact h4 j hji

section
variable {P : Program} {ops : Array Oper} {w0 : World} {tm : List Value}
/-- The walk taken apart: what is known behind each operation. -/
theorem wpS_parts {Q : Exit → Act → World → Prop} {df : List Deferred} {rest : List Oper} : ∀ (l : List Oper) (U : List (Nat × SV)), wpS P ops w0 tm Q df rest l U →
    ∃ (Us : Nat → List (Nat × SV)) (G : Nat → SV), Us 0 = U ∧
      (∀ i o, l[i]? = some o → ∃ d, o.dst = some d ∧ d < tm.length ∧ Step P ops w0 tm o (Us i) (G i) ∧ Us (i + 1) = (d, G i) :: Us i) ∧
      (∀ w', Ext w0 w' → fin w' (finals tm (Us l.length) tm.length) (fun l => wpList P ops Q rest ⟨l.toArray, df⟩ w'))
  | [], U, h => ⟨fun _ => U, fun _ => .val undef, rfl, fun i o ho => by simp at ho, h⟩
  | o :: l, U, h => by
    obtain ⟨d, g, hd, hlt, hs, hr⟩ := h
    obtain ⟨Us, G, h0, h1, h2⟩ := wpS_parts l _ hr
    refine ⟨fun i => match i with | 0 => U | i + 1 => Us i, fun i => match i with | 0 => g | i + 1 => G i, rfl, fun i o' ho => ?_, h2⟩
    cases i with
    | zero => simp at ho; subst ho; exact ⟨d, hd, hlt, hs, by simp [h0]⟩
    | succ i => exact h1 i o' (by simpa using ho)

/-- What is known of slot s when the operations that are marked (below k) have run. -/
def cur (ops : Array Oper) (tm : List Value) (G : Nat → SV) (on : Nat → Bool) : Nat → Nat → SV
  | 0, s => lk tm s
  | k + 1, s => if on k && (match ops[k]? with | some o => dstIs o s | none => false) then G k else cur ops tm G on k s

theorem cur_above {G : Nat → SV} {on : Nat → Bool} {s i : Nat} : ∀ (k : Nat), i ≤ k → (∀ j o, i ≤ j → j < k → ops[j]? = some o → o.dst = some s → on j = false) → cur ops tm G on k s = cur ops tm G on i s
  | 0, h, _ => by rw [Nat.le_zero.1 h]
  | k + 1, h, hn => by
    by_cases hi : i = k + 1
    · rw [hi]
    · rw [cur]
      have : (on k && (match ops[k]? with | some o => dstIs o s | none => false)) = false := by
        cases ho : ops[k]? with
        | none => simp
        | some o =>
          by_cases hd : o.dst = some s
          · simp [hn k o (by omega) (by omega) ho hd]
          · simp only [dstIs]
            cases hdd : o.dst with
            | none => simp
            | some d =>
              have : Nat.beq d s = false := by
                rw [hdd] at hd
                cases hb : Nat.beq d s with
                | false => rfl
                | true => exact absurd (by rw [Nat.eq_of_beq_eq_true hb]) hd
              simp [this]
      rw [this]
      exact cur_above k (by omega) (fun j o h1 h2 => hn j o h1 (by omega))
theorem cur_us {G : Nat → SV} {on : Nat → Bool} {s : Nat} {Us : Nat → List (Nat × SV)} (h0 : Us 0 = []) : ∀ (k : Nat),
    (∀ i o, i < k → ops[i]? = some o → ∃ d, o.dst = some d ∧ Us (i + 1) = (d, G i) :: Us i) → k ≤ ops.size →
    (∀ j o, j < k → ops[j]? = some o → o.dst = some s → on j = true) → cur ops tm G on k s = look tm (Us k) s
  | 0, _, _, _ => by rw [h0]; rfl
  | k + 1, hu, hk, hon => by
    have ih := cur_us h0 k (fun i o hi => hu i o (by omega)) (by omega) (fun j o hj => hon j o (by omega))
    have ho : ops[k]? = some ops[k] := by simp
    obtain ⟨d, hd, hU⟩ := hu k _ (by omega) ho
    rw [hU, cur, look, ho]
    simp only [dstIs, hd]
    cases hb : Nat.beq d s with
    | false => simp only [Bool.and_false]; exact ih
    | true =>
      have : d = s := Nat.eq_of_beq_eq_true hb
      have := hon k _ (by omega) ho (by rw [hd, this])
      simp [this]
theorem cur_congr {G : Nat → SV} {on on' : Nat → Bool} {s : Nat} : ∀ (k : Nat), (∀ j o, j < k → ops[j]? = some o → o.dst = some s → on j = on' j) → cur ops tm G on k s = cur ops tm G on' k s
  | 0, _ => rfl
  | k + 1, h => by
    have ih := cur_congr (G := G) k (fun j o hj => h j o (by omega))
    rw [cur, cur, ih]
    cases ho : ops[k]? with
    | none => simp
    | some o =>
      by_cases hd : o.dst = some s
      · rw [h k o (by omega) ho hd]
      · have : dstIs o s = false := by
          simp only [dstIs]
          cases hdd : o.dst with
          | none => rfl
          | some d =>
            cases hb : Nat.beq d s with
            | false => exact hb
            | true => rw [hdd] at hd; exact absurd (by rw [Nat.eq_of_beq_eq_true hb]) hd
        simp [this]

theorem dstIs_iff {o : Oper} {s : Nat} : dstIs o s = true ↔ o.dst = some s := by
  unfold dstIs
  cases o.dst with
  | none => simp
  | some d => simp

variable {pre : Nat → Nat → Prop} {m : Nat} {df : List Deferred} {G : Nat → SV} {Us : Nat → List (Nat × SV)} {Q : Exit → Act → World → Prop}
/-- What holds in the middle of the region, whatever order was drawn. -/
structure Inv (ops : Array Oper) (w0 : World) (tm : List Value) (pre : Nat → Nat → Prop) (m : Nat) (df : List Deferred) (G : Nat → SV) (listed : Array Bool) (a : Act) (w : World) : Prop where
  ext : Ext w0 w
  size : a.tmps.size = tm.length
  defers : a.defers = df
  down : ∀ i j, listed.getD i false = true → pre i j → listed.getD j false = true
  slots : ∀ s, (cur ops tm G (fun j => listed.getD j false) m s).sp (a.tmps.getD s undef) w

theorem getD_tf {listed : Array Bool} {i : Nat} (h : listed.getD i true = false) : listed.getD i false = false := by
  simp only [Array.getD_eq_getD_getElem?] at *
  cases hl : listed[i]? with
  | none => simp
  | some b => simpa [hl] using h
theorem getD_set_self {listed : Array Bool} {i : Nat} (h : listed.getD i true = false) : (listed.setIfInBounds i true).getD i false = true := by
  have : i < listed.size := by
    rcases Nat.lt_or_ge i listed.size with h' | h'
    · exact h'
    · simp [Array.getElem?_eq_none h'] at h
  simp [this]

theorem inv_step {listed : Array Bool} {a : Act} {w w' : World} {i d : Nat} {o : Oper} {v : Value}
    (hc : Chk ops m pre) (hu : ∀ i o, i < m → ops[i]? = some o → ∃ d, o.dst = some d ∧ d < tm.length ∧ Step P ops w0 tm o (Us i) (G i) ∧ Us (i + 1) = (d, G i) :: Us i)
    (hI : Inv ops w0 tm pre m df G listed a w) (him : i < m) (ho : ops[i]? = some o) (hun : listed.getD i true = false)
    (hpre : ∀ j, pre i j → listed.getD j false = true) (hd : o.dst = some d) (hdl : d < tm.length) (hx : Ext w w') (hg : (G i).sp v w') :
    Inv ops w0 tm pre m df G (listed.setIfInBounds i true) (a.put (some d) v) w' := by
  have hne : ∀ j, j ≠ i → (listed.setIfInBounds i true).getD j false = listed.getD j false := fun j hj => getD_set_ne false (Ne.symm hj)
  have hmono : ∀ j, listed.getD j false = true → (listed.setIfInBounds i true).getD j false = true := fun j hj => getD_set_true hj
  refine ⟨hI.ext.trans hx, by simp [Act.put, hI.size], by simp [Act.put, hI.defers], fun k j hk hp => ?_, fun s => ?_⟩
  · by_cases hki : k = i
    · subst hki; exact hmono _ (hpre j hp)
    · rw [hne k hki] at hk; exact hmono _ (hI.down k j hk hp)
  · by_cases hs : d = s
    · subst hs
      have e1 : cur ops tm G (fun j => (listed.setIfInBounds i true).getD j false) m d = G i := by
        rw [cur_above (i := i + 1) m (by omega) (fun j oj h1 h2 hj hdj => ?_)]
        · rw [cur, ho]
          have : dstIs o d = true := dstIs_iff.2 hd
          simp only [this, getD_set_self hun, Bool.and_self, if_true]
        · show (listed.setIfInBounds i true).getD j false = false
          rw [hne j (by omega)]
          have hp := (hc.names i o d j oj him ho (by simp [namesOf, hd]) h2 hj hdj (by omega)).2 (by omega)
          cases hl : listed.getD j false with
          | false => rfl
          | true => have := hI.down j i hl hp; rw [getD_tf hun] at this; cases this
      rw [e1]
      have : (a.put (some d) v).tmps.getD d undef = v := by simp [Act.put, hI.size, hdl]
      rw [this]; exact hg
    · have e1 : cur ops tm G (fun j => (listed.setIfInBounds i true).getD j false) m s = cur ops tm G (fun j => listed.getD j false) m s := by
        refine cur_congr m fun j oj hj hoj hdj => ?_
        by_cases hji : j = i
        · subst hji; rw [ho] at hoj; cases hoj; rw [hd] at hdj; exact absurd (Option.some.inj hdj) hs
        · exact hne j hji
      have e2 : (a.put (some d) v).tmps.getD s undef = a.tmps.getD s undef := by
        simp [Act.put, Array.getElem?_setIfInBounds_ne hs]
      rw [e1, e2]
      exact SV.stable _ _ _ _ (hI.slots s) hx

/-- The chain behind the region's first part. -/
theorem wpAny_chain (hc : Chk ops m pre) (hlt : ∀ i j, pre i j → j < i) : ∀ (fuel k : Nat) (listed : Array Bool) (a : Act) (w : World), k + fuel = ops.size → m ≤ k → listed.size = ops.size →
    (∀ i, i < k → listed.getD i false = true) → (∀ i, k ≤ i → listed.getD i false = false) → wpList P ops Q (ops.toList.drop k) a w → wpAny P .any ops Q fuel listed a w := by
  have rdy : ∀ (k : Nat) (listed : Array Bool), m ≤ k → k < ops.size → (∀ i, i < k → listed.getD i false = true) → (∀ i, k ≤ i → listed.getD i false = false) → ∀ i ∈ Region.ready .any ops listed, i = k := by
    intro k listed hmk hk hl hnl i hi
    obtain ⟨h0, o, ho, he⟩ := mem_ready.1 hi
    have h0' := getD_tf h0
    rcases Nat.lt_trichotomy i k with h | h | h
    · rw [hl i h] at h0'; cases h0'
    · exact h
    · have hp := hc.tail i k (by omega) (Array.getElem?_eq_some_iff.1 ho).1 h
      obtain ⟨e, hm, hb, h' | h'⟩ := hc.clo i o k ho hp
      · have := he e hm hb; rw [h', hnl k (Nat.le_refl _)] at this; cases this
      · have h1 := hlt _ _ h'
        have := he e hm hb
        rw [hnl e.on (by omega)] at this; cases this
  intro fuel
  induction fuel with
  | zero =>
    intro k listed a w hk hmk hsz hl hnl h
    have hk' : k = ops.size := by omega
    subst hk'
    refine ⟨?_, by have h' := h; rw [List.drop_of_length_le (by simp)] at h'; exact h'⟩
    cases hr : Region.ready .any ops listed with
    | nil => rfl
    | cons x l =>
      have hx : x ∈ Region.ready .any ops listed := by rw [hr]; simp
      obtain ⟨h0, o, ho, _⟩ := mem_ready.1 hx
      have := hl x (Array.getElem?_eq_some_iff.1 ho).1
      rw [getD_tf h0] at this; cases this
  | succ fuel ih =>
    intro k listed a w hk hmk hsz hl hnl h
    have hks : k < ops.size := by omega
    have ho : ops[k]? = some ops[k] := by simp [hks]
    have hun : listed.getD k true = false := by
      have := hnl k (Nat.le_refl _)
      simpa [Array.getD_eq_getD_getElem?, show k < listed.size by omega] using this
    have hk1 : k ∈ Region.ready .any ops listed := mem_ready.2 ⟨hun, _, ho, fun e he hb => hl _ (hc.lt k _ ho e he hb)⟩
    refine ⟨fun hn => (by rw [hn] at hk1; cases hk1), fun i hi => ?_⟩
    obtain rfl := rdy k listed hmk hks hl hnl i hi
    have hdrop : ops.toList.drop i = ops[i] :: ops.toList.drop (i + 1) := by rw [List.drop_eq_getElem_cons (by simpa using hks)]; simp
    rw [hdrop] at h
    have h' : wpOp P ops Q i (wpList P ops Q (ops.toList.drop (i + 1))) a w := by
      unfold wpOp
      simp only [ho]
      exact h
    refine wpOp_mono (fun a' w' hh => ih (i + 1) _ a' w' (by omega) (by omega) (by simp [hsz]) (fun j hj => ?_) (fun j hj => ?_) hh) h'
    · by_cases hji : j = i
      · subst hji; exact getD_set_self hun
      · exact getD_set_true (hl j (by omega))
    · rw [getD_set_ne false (by omega)]; exact hnl j (by omega)

theorem inv_done {rest : List Oper} {listed : Array Bool} {a : Act} {w : World} (hm : m ≤ ops.size) (h0 : Us 0 = [])
    (hu : ∀ i o, i < m → ops[i]? = some o → ∃ d, o.dst = some d ∧ d < tm.length ∧ Step P ops w0 tm o (Us i) (G i) ∧ Us (i + 1) = (d, G i) :: Us i)
    (hfin : ∀ w', Ext w0 w' → fin w' (finals tm (Us m) tm.length) (fun l => wpList P ops Q rest ⟨l.toArray, df⟩ w'))
    (hall : ∀ i, i < m → listed.getD i false = true) (hI : Inv ops w0 tm pre m df G listed a w) : wpList P ops Q rest a w := by
  obtain ⟨tmps, defers⟩ := a
  have hdf := hI.defers
  simp only at hdf
  subst hdf
  have := fin_spec w (finals tm (Us m) tm.length) tmps.toList _ (by simpa [finals] using hI.size.symm) (fun s hs hs' => ?_) (hfin w hI.ext)
  · simpa using this
  · have hs1 := hI.slots s
    rw [cur_us h0 m (fun i o hi ho => by obtain ⟨d, h1, _, _, h2⟩ := hu i o hi ho; exact ⟨d, h1, h2⟩) hm (fun j o hj _ _ => hall j hj)] at hs1
    have hs2 : s < tmps.size := by simpa using hs
    simpa [finals, hs2] using hs1

theorem wpAny_main {rest : List Oper} (hc : Chk ops m pre) (hlt : ∀ i j, pre i j → j < i) (hm : m ≤ ops.size) (hrest : ops.toList.drop m = rest) (h0 : Us 0 = [])
    (hu : ∀ i o, i < m → ops[i]? = some o → ∃ d, o.dst = some d ∧ d < tm.length ∧ Step P ops w0 tm o (Us i) (G i) ∧ Us (i + 1) = (d, G i) :: Us i)
    (hfin : ∀ w', Ext w0 w' → fin w' (finals tm (Us m) tm.length) (fun l => wpList P ops Q rest ⟨l.toArray, df⟩ w')) :
    ∀ (fuel : Nat) (listed : Array Bool) (a : Act) (w : World), listed.size = ops.size → listed.toList.countP (· == false) = fuel → (∀ i, m ≤ i → listed.getD i false = false) →
      Inv ops w0 tm pre m df G listed a w → wpAny P .any ops Q fuel listed a w := by
  intro fuel
  induction fuel with
  | zero =>
    intro listed a w hsz hcnt hnl hI
    have hall : ∀ i, i < listed.size → listed.getD i false = true := fun i hi => by
      have := List.countP_eq_zero.1 hcnt listed[i] (by simp)
      simpa [hi] using this
    have hmn : m = ops.size := by
      rcases Nat.lt_or_ge m ops.size with h | h
      · have h1 := hall m (by omega); rw [hnl m (Nat.le_refl _)] at h1; cases h1
      · omega
    refine wpAny_chain hc hlt 0 m listed a w (by omega) (Nat.le_refl _) hsz (fun i hi => hall i (by omega)) hnl ?_
    rw [hrest]
    exact inv_done hm h0 hu hfin (fun i hi => hall i (by omega)) hI
  | succ fuel ih =>
    intro listed a w hsz hcnt hnl hI
    by_cases hall : ∀ i, i < m → listed.getD i false = true
    · refine wpAny_chain hc hlt (fuel + 1) m listed a w ?_ (Nat.le_refl _) hsz hall hnl (by rw [hrest]; exact inv_done hm h0 hu hfin hall hI)
      -- the operations that are left are the chain's
      have hsplit : listed.toList = List.replicate m true ++ List.replicate (ops.size - m) false := by
        apply List.ext_getElem
        · simp [hsz]; omega
        · intro i h1 h2
          have h1' : i < listed.size := by simpa using h1
          by_cases him : i < m
          · have := hall i him
            rw [List.getElem_append_left (by simpa using him)]
            simpa [h1'] using this
          · have := hnl i (by omega)
            rw [List.getElem_append_right (by simpa using (by omega : m ≤ i))]
            simpa [h1'] using this
      rw [hsplit] at hcnt
      simp [List.countP_append, List.countP_replicate] at hcnt
      omega
    · -- the first that has not run is ready
      have hex : ∃ i, i < m ∧ listed.getD i false = false ∧ ∀ j, j < i → listed.getD j false = true := by
        have hex0 : ∃ i, i < m ∧ listed.getD i false = false := by
          apply Classical.byContradiction
          intro hne
          exact hall fun i hi => by
            cases hl : listed.getD i false with
            | true => rfl
            | false => exact absurd ⟨i, hi, hl⟩ hne
        obtain ⟨i, hi, hl⟩ := hex0
        induction i using Nat.strongRecOn with
        | ind i ihi =>
          by_cases hj : ∀ j, j < i → listed.getD j false = true
          · exact ⟨i, hi, hl, hj⟩
          · have : ∃ j, j < i ∧ listed.getD j false = false := by
              apply Classical.byContradiction
              intro hne
              exact hj fun j hj => by
                cases hl : listed.getD j false with
                | true => rfl
                | false => exact absurd ⟨j, hj, hl⟩ hne
            obtain ⟨j, hji, hjl⟩ := this
            exact ihi j hji (by omega) hjl
      obtain ⟨i0, hi0, hl0, hbelow⟩ := hex
      have tf : ∀ i, i < ops.size → listed.getD i false = false → listed.getD i true = false := fun i hi h => by
        simpa [Array.getD_eq_getD_getElem?, show i < listed.size by omega] using h
      have hrdy : i0 ∈ Region.ready .any ops listed := mem_ready.2 ⟨tf i0 (by omega) hl0, ops[i0], by simp, fun e he hb => hbelow _ (hc.lt i0 _ (by simp) e he hb)⟩
      refine ⟨fun hn => (by rw [hn] at hrdy; cases hrdy), fun i hi => ?_⟩
      obtain ⟨hun, o, ho, hed⟩ := mem_ready.1 hi
      have his : i < ops.size := (Array.getElem?_eq_some_iff.1 ho).1
      have hpre : ∀ j, pre i j → listed.getD j false = true := fun j hp => by
        obtain ⟨e, he, hb, h' | h'⟩ := hc.clo i o j ho hp
        · rw [← h']; exact hed e he hb
        · exact hI.down _ _ (hed e he hb) h'
      have him : i < m := by
        rcases Nat.lt_or_ge i m with h | h
        · exact h
        · have := hpre i0 (hc.tail i i0 h his (by omega)); rw [hl0] at this; cases this
      obtain ⟨d, hd, hdl, hst, hU⟩ := hu i o him ho
      -- what the operation looks at is as known
      have hlook : ∀ s ∈ o.looksAt ops, (look tm (Us i) s).sp (Act.fn a s) w := fun s hs => by
        have h1 := hI.slots s
        rw [cur_above (i := i) m (by omega) (fun j oj h1 h2 hj hdj => ?_),
          cur_us h0 i (fun k ok hk hok => by obtain ⟨d, h1, _, _, h2⟩ := hu k ok (by omega) hok; exact ⟨d, h1, h2⟩) (by omega) (fun j oj hji hoj hdj => ?_)] at h1
        · exact h1
        · exact hpre j ((hc.names i o s j oj him ho (by simp [namesOf, hs]) (by omega) hoj hdj (by omega)).1 hji)
        · by_cases hji : j = i
          · subst hji; exact getD_tf hun
          · have hp := (hc.names i o s j oj him ho (by simp [namesOf, hs]) h2 hj hdj hji).2 (by omega)
            show listed.getD j false = false
            cases hl : listed.getD j false with
            | false => rfl
            | true => have := hI.down j i hl hp; rw [getD_tf hun] at this; cases this
      have hcnt' : (listed.setIfInBounds i true).toList.countP (· == false) = fuel := by
        have hil : i < listed.toList.length := by simp [hsz, his]
        have hb : listed.toList[i] = false := by simpa [show i < listed.size by omega] using getD_tf hun
        rw [Array.toList_setIfInBounds, List.countP_set hil, hb, hcnt]
        rfl
      have hnl' : ∀ j, m ≤ j → (listed.setIfInBounds i true).getD j false = false := fun j hj => by rw [getD_set_ne false (by omega)]; exact hnl j hj
      have next : ∀ v w', Ext w w' → (G i).sp v w' → wpAny P .any ops Q fuel (listed.setIfInBounds i true) (a.put o.dst v) w' := fun v w' hx hg =>
        ih _ _ _ (by simp [hsz]) hcnt' hnl' (by rw [hd]; exact inv_step hc hu hI him ho hun hpre hd hdl hx hg)
      obtain ⟨hs1, hs2⟩ := hst (Act.fn a) w hI.ext hlook
      unfold wpOp
      simp only [ho]
      rw [wanted_env]
      split
      · rename_i hw
        have h1 := hs1 hw
        rw [← eval_env] at h1
        exact .inl (h1.wp fun v w' ⟨hx, hg⟩ => next v w' hx hg)
      · rename_i hw
        exact next undef w (Ext.refl w) (hs2 (by simpa using hw))

/-- THE LAW: a region whose order is drawn, by one walk in the text's order ('l', then 'rest' behind it). -/
theorem wp_region_S {id : Nat} {a : Act} {w : World} (l rest : List Oper) (hm : P.follows .mixedOrders = true) (hB : chkR (l ++ rest).toArray l.length = true)
    (h : wpS P (l ++ rest).toArray w.drew a.tmps.toList Q a.defers rest l []) : (Code.region id (l ++ rest).toArray true).wp P Q a w := by
  obtain ⟨Us, G, h0, h1, h2⟩ := wpS_parts l [] h
  have hc := chk_of _ _ hB
  have hlt : ∀ i j, ((preOf (l ++ rest).toArray.toList).getD i 0).testBit j = true → j < i := by
    intro i
    induction i using Nat.strongRecOn with
    | ind i ih =>
      intro j hp
      by_cases hi : i < (l ++ rest).toArray.size
      · have ho : (l ++ rest).toArray[i]? = some (l ++ rest).toArray[i] := by simp
        obtain ⟨e, he, hb, h' | h'⟩ := hc.clo i _ j ho hp
        · have := hc.lt i _ ho e he hb; omega
        · have h3 := hc.lt i _ ho e he hb
          have := ih e.on h3 j h'; omega
      · have : (preOf (l ++ rest).toArray.toList).getD i 0 = 0 := by
          have hlen : ∀ (l acc : List Oper) (acc : List Nat), (preGo l acc).length = acc.length + l.length := by
            intro l _
            induction l with
            | nil => intro acc; simp [preGo]
            | cons o l ih => intro acc; rw [preGo, ih]; simp; omega
          have h4 : (preOf (l ++ rest).toArray.toList).length = (l ++ rest).length := by
            rw [preOf, hlen _ []]; simp
          rw [List.getD_eq_getElem?_getD, List.getElem?_eq_none (by rw [h4]; simpa using hi)]; rfl
        rw [this] at hp; simp at hp
  have hsz : (l ++ rest).toArray.size = l.length + rest.length := by simp
  have allF : ∀ i, (Array.replicate (l ++ rest).toArray.size false).getD i false = false := by
    intro i
    rw [Array.getD_eq_getD_getElem?, Array.getElem?_replicate]
    split <;> rfl
  refine wp_region_any hm (wpAny_main (m := l.length) (df := a.defers) (G := G) (Us := Us) (w0 := w.drew) (tm := a.tmps.toList) (rest := rest) hc hlt (by omega) (by simp) h0 ?_ h2 _ _ _ _ (by simp) ?_ ?_ ?_)
  · intro i o hi ho
    exact h1 i o (by simpa [List.getElem?_append_left hi] using ho)
  · simp [List.countP_replicate]
  · exact fun i _ => allF i
  · refine ⟨Ext.refl _, by simp, rfl, fun i j hi _ => ?_, fun s => ?_⟩
    · rw [allF] at hi; cases hi
    · have : cur (l ++ rest).toArray a.tmps.toList G (fun j => (Array.replicate (l ++ rest).toArray.size false).getD j false) l.length s = lk a.tmps.toList s := by
        rw [cur_above (i := 0) _ (Nat.zero_le _) (fun j o _ _ _ _ => allF j)]
        rfl
      rw [this, lk_eq]
      simp [SV.sp]
end

section
variable {P : Program} {Q : Exit → Act → World → Prop} {w : World} {tm : List Value} {df : List Deferred}
theorem wp_region_S0 {id : Nat} (l : List Oper) (hm : P.follows .mixedOrders = true) (hB : chkR l.toArray l.length = true)
    (h : wpS P l.toArray w.drew tm Q df [] l []) : (Code.region id l.toArray true).wp P Q ⟨tm.toArray, df⟩ w := by
  have := wp_region_S (P := P) (Q := Q) (id := id) (a := ⟨tm.toArray, df⟩) (w := w) l [] hm (by simpa using hB) (by simpa using h)
  simpa using this
theorem wp_region_Sm {id : Nat} (m : Nat) (l : List Oper) (hm : P.follows .mixedOrders = true) (hl : m ≤ l.length) (hB : chkR l.toArray m = true)
    (h : wpS P l.toArray w.drew tm Q df (l.drop m) (l.take m) []) : (Code.region id l.toArray true).wp P Q ⟨tm.toArray, df⟩ w := by
  have e : l.take m ++ l.drop m = l := List.take_append_drop m l
  have := wp_region_S (P := P) (Q := Q) (id := id) (a := ⟨tm.toArray, df⟩) (w := w) (l.take m) (l.drop m) hm (by rw [e, List.length_take, Nat.min_eq_left hl]; exact hB) (by rw [e]; simpa using h)
  rwa [e] at this
end

/-! ### the rules of the walk -/
/-- The slots that an operation reads, and what they hold. -/
def asc : List (Nat × Value) → Nat → Value
  | [], _ => undef
  | (s, v) :: l, t => match Nat.beq s t with | true => v | false => asc l t
def isTmp (s : Nat) : Operand → Bool
  | .tmp t => Nat.beq t s
  | _ => false
def reads (ss : List Nat) (o : Oper) : Bool := (o.op.operands.toList.all fun
  | .tmp t => ss.any (Nat.beq t)
  | _ => true) && ss.all fun s => o.op.operands.toList.any (isTmp s)
def mvOf : Op → Option Operand
  | .move x => some x
  | .assign x => some x
  | _ => none
section
variable {P : Program} {ops : Array Oper} {w0 : World} {tm : List Value} {Q : Exit → Act → World → Prop} {df : List Deferred} {rest l : List Oper} {U : List (Nat × SV)} {o : Oper} {d : Nat}
/-- The guard says yes, by what is known. -/
def gYes (ops : Array Oper) (tm : List Value) (U : List (Nat × SV)) (o : Oper) : Bool :=
  match o.guard with
  | none => true
  | some (j, want) => match (ops[j]?).bind (·.dst) with
    | some t => match look tm U t with | .val (.bool b) => b == want | _ => false
    | none => false
def gNo (ops : Array Oper) (tm : List Value) (U : List (Nat × SV)) (o : Oper) : Bool :=
  match o.guard with
  | none => false
  | some (j, want) => match (ops[j]?).bind (·.dst) with
    | some t => match look tm U t with | .val (.bool b) => b != want | .val _ => true | _ => false
    | none => false
theorem wanted_no {ρ : Nat → Value} {w' : World} (h : gNo ops tm U o = true) (hl : ∀ s ∈ o.looksAt ops, (look tm U s).sp (ρ s) w') : wantedρ ops ρ o = false := by
  unfold gNo at h
  unfold wantedρ
  cases hg : o.guard with
  | none => rw [hg] at h; simp at h
  | some gw =>
    obtain ⟨j, want⟩ := gw
    rw [hg] at h
    simp only at h ⊢
    cases ht : (ops[j]?).bind (·.dst) with
    | none => rfl
    | some t =>
      rw [ht] at h
      simp only at h ⊢
      have hs := hl t (by simp [Oper.looksAt, hg, ht])
      cases hk : look tm U t with
      | rep F hF => rw [hk] at h; simp at h
      | val c =>
        rw [hk] at hs h
        simp only [SV.sp] at hs
        rw [hs]
        cases c <;> simp_all
theorem wpS_skip (hd : o.dst = some d) (hlt : Nat.blt d tm.length = true) (hg : gNo ops tm U o = true) (h : wpS P ops w0 tm Q df rest l ((d, .val undef) :: U)) :
    wpS P ops w0 tm Q df rest (o :: l) U :=
  ⟨d, .val undef, hd, by simpa [Nat.blt_eq] using hlt, fun ρ w' _ hl => ⟨fun hw => (by rw [wanted_no hg hl] at hw; cases hw), fun _ => rfl⟩, h⟩
theorem gYes_or {ρ : Nat → Value} {w' : World} (h : gYes ops tm U o = true) (hl : ∀ s ∈ o.looksAt ops, (look tm U s).sp (ρ s) w') : wantedρ ops ρ o = true := by
  unfold gYes at h
  unfold wantedρ
  cases hg : o.guard with
  | none => rfl
  | some gw =>
    obtain ⟨j, want⟩ := gw
    rw [hg] at h
    simp only at h ⊢
    cases ht : (ops[j]?).bind (·.dst) with
    | none => rw [ht] at h; simp at h
    | some t =>
      rw [ht] at h
      simp only at h ⊢
      have hs := hl t (by simp [Oper.looksAt, hg, ht])
      cases hk : look tm U t with
      | rep F hF => rw [hk] at h; simp at h
      | val c =>
        rw [hk] at hs h
        simp only [SV.sp] at hs
        rw [hs]
        cases c <;> simp_all
theorem wpS_cons {g : SV} (hd : o.dst = some d) (hlt : Nat.blt d tm.length = true) (hg : gYes ops tm U o = true)
    (hs : ∀ (ρ : Nat → Value) (w' : World), Ext w0 w' → (∀ s ∈ o.looksAt ops, (look tm U s).sp (ρ s) w') → RunsUpon P (fun v w'' => Ext w' w'' ∧ g.sp v w'') ((execOp (env ρ) o).run P w'))
    (h : wpS P ops w0 tm Q df rest l ((d, g) :: U)) : wpS P ops w0 tm Q df rest (o :: l) U :=
  ⟨d, g, hd, by simpa [Nat.blt_eq] using hlt, fun ρ w' hx hl => ⟨fun _ => hs ρ w' hx hl, fun hw => (by rw [gYes_or hg hl] at hw; cases hw)⟩, h⟩
/-- 'move', 'assign': what is known of the slot that it reads. -/
theorem wpS_mv {g : SV} (s : Nat) (hd : o.dst = some d) (hlt : Nat.blt d tm.length = true) (hg : gYes ops tm U o = true) (hop : mvOf o.op = some (.tmp s)) (hk : look tm U s = g)
    (h : wpS P ops w0 tm Q df rest l ((d, g) :: U)) : wpS P ops w0 tm Q df rest (o :: l) U := by
  refine wpS_cons hd hlt hg (fun ρ w' _ hl => ?_) h
  obtain ⟨dst, op, type, pos, after, guard⟩ := o
  cases op <;> simp only [mvOf, reduceCtorEq, Option.some.injEq] at hop
  all_goals
    subst hop
    have hs := hl s (by simp [Oper.looksAt, Op.operands])
    rw [hk] at hs
    exact ⟨Ext.refl w', hs⟩
theorem wpS_mvc (c : Value) (hd : o.dst = some d) (hlt : Nat.blt d tm.length = true) (hg : gYes ops tm U o = true) (hop : mvOf o.op = some (.const c))
    (h : wpS P ops w0 tm Q df rest l ((d, .val c) :: U)) : wpS P ops w0 tm Q df rest (o :: l) U := by
  refine wpS_cons hd hlt hg (fun ρ w' _ hl => ?_) h
  obtain ⟨dst, op, type, pos, after, guard⟩ := o
  cases op <;> simp only [mvOf, reduceCtorEq, Option.some.injEq] at hop
  all_goals
    subst hop
    exact ⟨Ext.refl w', rfl⟩

/-- What is known of the slots that are read: values first, then those that are known by a predicate. -/
def Vals (tm : List Value) (U : List (Nat × SV)) : List (Nat × Value) → Prop
  | [] => True
  | (s, v) :: l => look tm U s = .val v ∧ Vals tm U l
def Reps (tm : List Value) (U : List (Nat × SV)) : List (Nat × SP) → Prop
  | [] => True
  | (s, F) :: l => (∃ h, look tm U s = .rep F h) ∧ Reps tm U l
def Fill (w : World) : List (Nat × SP) → List (Nat × Value) → (List (Nat × Value) → Prop) → Prop
  | [], ss, k => k ss
  | (s, F) :: l, ss, k => ∀ x, F x w → Fill w l ((s, x) :: ss) k
theorem fill_spec {w : World} {ρ : Nat → Value} : ∀ (rs : List (Nat × SP)) (ss : List (Nat × Value)) (k : List (Nat × Value) → Prop), (∀ p ∈ rs, p.2 (ρ p.1) w) → (∀ p ∈ ss, p.2 = ρ p.1) →
    Fill w rs ss k → ∃ ss', k ss' ∧ (∀ p ∈ ss', p.2 = ρ p.1) ∧ (∀ p ∈ ss, p.1 ∈ ss'.map (·.1)) ∧ ∀ p ∈ rs, p.1 ∈ ss'.map (·.1)
  | [], ss, k, _, hs, h => ⟨ss, h, hs, fun p hp => List.mem_map.2 ⟨p, hp, rfl⟩, fun p hp => by cases hp⟩
  | (s, F) :: l, ss, k, hr, hs, h => by
    obtain ⟨ss', h1, h2, h3, h4⟩ := fill_spec l ((s, ρ s) :: ss) k (fun p hp => hr p (by simp [hp])) (fun p hp => by
      rcases List.mem_cons.1 hp with rfl | hp
      · rfl
      · exact hs p hp) (h (ρ s) (hr (s, F) (by simp)))
    refine ⟨ss', h1, h2, fun p hp => h3 p (by simp [hp]), fun p hp => ?_⟩
    rcases List.mem_cons.1 hp with rfl | hp
    · exact h3 (s, ρ s) (by simp)
    · exact h4 p hp
theorem asc_spec {ρ : Nat → Value} {t : Nat} : ∀ {ss : List (Nat × Value)}, (∀ p ∈ ss, p.2 = ρ p.1) → t ∈ ss.map (·.1) → asc ss t = ρ t
  | [], _, h => by simp at h
  | (s, v) :: l, hs, h => by
    rw [asc]
    cases hb : Nat.beq s t with
    | true =>
      have := Nat.eq_of_beq_eq_true hb
      subst this
      exact hs (s, v) (by simp)
    | false =>
      have hne : s ≠ t := fun e => by subst e; simp at hb
      simp only
      exact asc_spec (fun p hp => hs p (by simp [hp])) (by
        simp only [List.map_cons, List.mem_cons] at h
        exact h.resolve_left (Ne.symm hne))
/-- Any operation. -/
theorem wpS_op {g : SV} (ss : List (Nat × Value)) (rs : List (Nat × SP)) (hd : o.dst = some d) (hlt : Nat.blt d tm.length = true) (hg : gYes ops tm U o = true) (hsel : isSelect o.op = false)
    (hrd : reads (ss.map (·.1) ++ rs.map (·.1)) o = true) (hv : Vals tm U ss) (hr : Reps tm U rs)
    (hs : ∀ w', Ext w0 w' → Fill w' rs ss (fun ss => RunsUpon P (fun v w'' => Ext w' w'' ∧ g.sp v w'') ((execOp (env (asc ss)) o).run P w')))
    (h : wpS P ops w0 tm Q df rest l ((d, g) :: U)) : wpS P ops w0 tm Q df rest (o :: l) U := by
  refine wpS_cons hd hlt hg (fun ρ w' hx hl => ?_) h
  unfold reads at hrd
  rw [Bool.and_eq_true] at hrd
  have hreads : ∀ t, Operand.tmp t ∈ o.op.operands → t ∈ ss.map (·.1) ++ rs.map (·.1) := fun t ht => by
    have := List.all_eq_true.1 hrd.1 _ (by simpa using ht)
    simp only [List.any_eq_true] at this
    obtain ⟨u, hu, hb⟩ := this
    rw [Nat.eq_of_beq_eq_true hb]; exact hu
  have hnamed : ∀ s ∈ ss.map (·.1) ++ rs.map (·.1), (look tm U s).sp (ρ s) w' := fun s hs => by
    have := List.all_eq_true.1 hrd.2 s hs
    obtain ⟨x, hx, hb⟩ := List.any_eq_true.1 this
    cases x <;> simp only [isTmp, Bool.false_eq_true] at hb
    rename_i t
    have : t = s := Nat.eq_of_beq_eq_true hb
    subst this
    exact hl t (by simp only [Oper.looksAt, List.mem_append, List.mem_filterMap]; exact .inl ⟨.tmp t, hx, rfl⟩)
  have h1 : ∀ p ∈ ss, p.2 = ρ p.1 := by
    have : ∀ (ss : List (Nat × Value)), Vals tm U ss → (∀ p ∈ ss, (look tm U p.1).sp (ρ p.1) w') → ∀ p ∈ ss, p.2 = ρ p.1 := by
      intro ss
      induction ss with
      | nil => intro _ _ p hp; cases hp
      | cons q ss ih =>
        intro hv hn p hp
        rcases List.mem_cons.1 hp with rfl | hp
        · have := hn p (by simp)
          rw [hv.1] at this; exact this.symm
        · exact ih hv.2 (fun p hp => hn p (by simp [hp])) p hp
    exact this ss hv fun p hp => hnamed p.1 (List.mem_append_left _ (List.mem_map.2 ⟨p, hp, rfl⟩))
  have h2 : ∀ p ∈ rs, p.2 (ρ p.1) w' := by
    have : ∀ (rs : List (Nat × SP)), Reps tm U rs → (∀ p ∈ rs, (look tm U p.1).sp (ρ p.1) w') → ∀ p ∈ rs, p.2 (ρ p.1) w' := by
      intro rs
      induction rs with
      | nil => intro _ _ p hp; cases hp
      | cons q rs ih =>
        intro hv hn p hp
        rcases List.mem_cons.1 hp with rfl | hp
        · have := hn p (by simp)
          obtain ⟨⟨_, he⟩, _⟩ := hv
          rw [he] at this; exact this
        · exact ih hv.2 (fun p hp => hn p (by simp [hp])) p hp
    exact this rs hr fun p hp => hnamed p.1 (List.mem_append_right _ (List.mem_map.2 ⟨p, hp, rfl⟩))
  obtain ⟨ss', k1, k2, k3, k4⟩ := fill_spec rs ss _ h2 h1 (hs w' hx)
  have he : execOp (env ρ) o = execOp (env (asc ss')) o := by
    refine execOp_congr o (fun cs b h => by rw [h] at hsel; simp [isSelect] at hsel) fun x hx => ?_
    cases x with
    | tmp t =>
      have hmem : t ∈ ss'.map (·.1) := by
        rcases List.mem_append.1 (hreads t hx) with h | h
        · obtain ⟨p, hp, rfl⟩ := List.mem_map.1 h; exact k3 p hp
        · obtain ⟨p, hp, rfl⟩ := List.mem_map.1 h; exact k4 p hp
      exact (asc_spec k2 hmem).symm
    | const c => rfl
    | global g => rfl
    | func f => rfl
  rw [he]
  exact k1

/-- A call of a function of the program's own. -/
def callOf : Op → Option (FuncId × List Operand)
  | .call { callee := .value (.func f), args, .. } => some (f, args.toList)
  | _ => none
def Callable (P : Program) (f : FuncId) : Prop := ∃ fn, P.funcs[f]? = some fn ∧ fn.body.isNone = false ∧ (fn.name == "runtime.NumGoroutine") = false
theorem run_callOf {P : Program} {o : Oper} {f : FuncId} {xs : List Operand} (h : callOf o.op = some (f, xs)) (hc : Callable P f) (ρ : Nat → Value) (w : World) :
    (execOp (env ρ) o).run P w = .ok (.enter f (xs.map (env ρ)).toArray) w := by
  obtain ⟨fn, hf, hb, hn⟩ := hc
  obtain ⟨dst, op, type, pos, after, guard⟩ := o
  cases op with
  | call c =>
    obtain ⟨callee, args, at_⟩ := c
    cases callee with
    | value x =>
      cases x with
      | func f' =>
        simp only [callOf, Option.some.injEq, Prod.mk.injEq] at h
        obtain ⟨rfl, rfl⟩ := h
        have hb' : fn.body ≠ none := fun h => by rw [h] at hb; simp at hb
        simp [go_sem, env]
        unfold callFunc
        have hn' : ¬ fn.name = "runtime.NumGoroutine" := by simpa using hn
        simp [go_sem, hf, hb', hn']
        rw [← Array.toList_map, Array.toArray_toList]
      | _ => cases h
    | _ => cases h
  | _ => cases h
theorem wpS_call {g : SV} (f : FuncId) (xs : List Operand) (ss : List (Nat × Value)) (rs : List (Nat × SP)) (hd : o.dst = some d) (hlt : Nat.blt d tm.length = true) (hg : gYes ops tm U o = true) (hop : callOf o.op = some (f, xs)) (hc : Callable P f)
    (hrd : reads (ss.map (·.1) ++ rs.map (·.1)) o = true) (hv : Vals tm U ss) (hr : Reps tm U rs)
    (hs : ∀ w', Ext w0 w' → Fill w' rs ss (fun ss => Gives P f (xs.map (env (asc ss))).toArray w' g.sp))
    (h : wpS P ops w0 tm Q df rest l ((d, g) :: U)) : wpS P ops w0 tm Q df rest (o :: l) U := by
  refine wpS_op ss rs hd hlt hg ?_ hrd hv hr (fun w' hx => ?_) h
  · cases hh : o.op <;> first | rfl | (rw [hh] at hop; cases hop)
  · have := hs w' hx
    revert this
    have key : ∀ (rs : List (Nat × SP)) (ss : List (Nat × Value)) (k k' : List (Nat × Value) → Prop), (∀ ss, k ss → k' ss) → Fill w' rs ss k → Fill w' rs ss k' := by
      intro rs
      induction rs with
      | nil => intro ss k k' h1 h2; exact h1 _ h2
      | cons p rs ih => intro ss k k' h1 h2 x hx; exact ih _ k k' h1 (h2 x hx)
    refine key rs ss _ _ fun ss h => ?_
    rw [run_callOf hop hc]
    exact h
/-- An operation that leaves the world alone, over values that are known: c is found by the run. -/
def ValOf (K : Value → Prop) (w : World) : Result Next → Prop
  | .ok (.value v) w' => w' = w ∧ K v
  | _ => False
theorem wpS_val (ss : List (Nat × Value)) {c : Value} (hd : o.dst = some d) (hlt : Nat.blt d tm.length = true) (hg : gYes ops tm U o = true) (hsel : isSelect o.op = false)
    (hrd : reads (ss.map (·.1)) o = true) (hv : Vals tm U ss)
    (hs : ∀ w', Ext w0 w' → ∀ K : Value → Prop, K c → ValOf K w' ((execOp (env (asc ss)) o).run P w'))
    (h : wpS P ops w0 tm Q df rest l ((d, .val c) :: U)) : wpS P ops w0 tm Q df rest (o :: l) U := by
  refine wpS_op ss [] hd hlt hg hsel (by simpa using hrd) hv trivial (fun w' hx => ?_) h
  have := hs w' hx (fun v => v = c) rfl
  simp only [Fill]
  generalize (execOp (env (asc ss)) o).run P w' = r at *
  cases r with
  | ok n w'' =>
    cases n <;> simp only [ValOf] at this
    case value v => obtain ⟨rfl, rfl⟩ := this; exact ⟨Ext.refl _, rfl⟩
  | halt x w'' => simp only [ValOf] at this
/-- A load of one cell, of many cells. -/
def flat : Option TypeDesc → Bool
  | some (.struct _) => false
  | some (.array _ _) => false
  | some _ => true
  | none => false
def many : Option TypeDesc → Bool
  | some (.struct _) => true
  | some (.array _ _) => true
  | _ => false
theorem run_load1 {P : Program} {t : TypeId} {a : Addr} {v : Value} {w : World} (hu : flat (P.underlying t) = true) (hc : w.cell? a = some v) : (Instr.loadAt t (.pointer (some a))).run P w = .ok v w := by
  cases hd : P.underlying t with
  | none => rw [hd] at hu; cases hu
  | some d =>
    rw [hd] at hu
    cases d <;> first | (cases hu; done) | simp [go_sem, Instr.loadAt, Instr.sureAddr, loadVar, isAgg, run_underlying hd, hc]
theorem run_loadN {P : Program} {t : TypeId} {a : Addr} {cs : List Value} {w : World} (hu : many (P.underlying t) = true) (hs : (P.info? t).map (·.size) = some cs.length) (hc : ∀ j u, cs[j]? = some u → w.cell? (a.add j) = some u) :
    (Instr.loadAt t (.pointer (some a))).run P w = .ok (.agg cs.toArray) w := by
  have hl := run_loadCells_list (P := P) w a cs hc
  unfold loadCells at hl
  obtain ⟨i, hi, hz⟩ := Option.map_eq_some_iff.1 hs
  cases hd : P.underlying t with
  | none => rw [hd] at hu; cases hu
  | some d =>
    rw [hd] at hu
    cases d <;> first | (cases hu; done) | simp [go_sem, Instr.loadAt, Instr.sureAddr, loadVar, isAgg, sizeOf, typeInfo, run_underlying hd, hi, hz, hl]
def loadOf : Op → Option (TypeId × Nat)
  | .load t (.tmp s) => some (t, s)
  | _ => none
theorem wpS_load {t s : Nat} {a : Addr} (v : Value) (hd : o.dst = some d) (hlt : Nat.blt d tm.length = true) (hg : gYes ops tm U o = true) (hop : loadOf o.op = some (t, s)) (hu : flat (P.underlying t) = true)
    (hk : look tm U s = .val (.pointer (some a))) (hc : w0.cell? a = some v) (h : wpS P ops w0 tm Q df rest l ((d, .val v) :: U)) : wpS P ops w0 tm Q df rest (o :: l) U := by
  refine wpS_cons hd hlt hg (fun ρ w' hx hl => ?_) h
  obtain ⟨dst, op, type, pos, after, guard⟩ := o
  cases op with
  | load t' x =>
    cases x with
    | tmp s' =>
      simp only [loadOf, Option.some.injEq, Prod.mk.injEq] at hop
      obtain ⟨rfl, rfl⟩ := hop
      have hs := hl s' (by simp [Oper.looksAt, Op.operands])
      rw [hk] at hs
      simp only [SV.sp] at hs
      have hc' : w'.cell? a = some v := by rw [hx.cell (World.block_lt_of_cell? w0 a hc)]; exact hc
      have := run_load1 (P := P) hu hc'
      simp only [execOp, env, hs, Sem.run_bind, this, Result.andThen_ok, Sem.run_pure, RunsUpon]
      exact ⟨Ext.refl _, rfl⟩
    | _ => cases hop
  | _ => cases hop
theorem wpS_loadN {t s : Nat} {a : Addr} (cs : List Value) (hd : o.dst = some d) (hlt : Nat.blt d tm.length = true) (hg : gYes ops tm U o = true) (hop : loadOf o.op = some (t, s)) (hu : many (P.underlying t) = true) (hsz : (P.info? t).map (·.size) = some cs.length)
    (hk : look tm U s = .val (.pointer (some a))) (hc : ∀ j u, cs[j]? = some u → w0.cell? (a.add j) = some u) (h : wpS P ops w0 tm Q df rest l ((d, .val (.agg cs.toArray)) :: U)) : wpS P ops w0 tm Q df rest (o :: l) U := by
  refine wpS_cons hd hlt hg (fun ρ w' hx hl => ?_) h
  obtain ⟨dst, op, type, pos, after, guard⟩ := o
  cases op with
  | load t' x =>
    cases x with
    | tmp s' =>
      simp only [loadOf, Option.some.injEq, Prod.mk.injEq] at hop
      obtain ⟨rfl, rfl⟩ := hop
      have hs := hl s' (by simp [Oper.looksAt, Op.operands])
      rw [hk] at hs
      simp only [SV.sp] at hs
      have := run_loadN (P := P) hu hsz (w := w') (a := a) fun j u hj => by rw [hx.cell (World.block_lt_of_cell? w0 _ (hc j u hj))]; exact hc j u hj
      simp only [execOp, env, hs, Sem.run_bind, this, Result.andThen_ok, Sem.run_pure, RunsUpon]
      exact ⟨Ext.refl _, rfl⟩
    | _ => cases hop
  | _ => cases hop
/-- 'pick', its test known. -/
def pickOf : Op → Option (Nat × Operand × Operand)
  | .pick (.tmp c) a b => some (c, a, b)
  | _ => none
def opSV (tm : List Value) (U : List (Nat × SV)) : Operand → SV
  | .tmp t => look tm U t
  | x => .val (env (fun _ => undef) x)
theorem wpS_pick {c : Nat} {a b : Operand} {g : SV} (t : Bool) (hd : o.dst = some d) (hlt : Nat.blt d tm.length = true) (hg : gYes ops tm U o = true) (hop : pickOf o.op = some (c, a, b))
    (hk : look tm U c = .val (.bool t)) (hx : opSV tm U (match t with | true => a | false => b) = g) (h : wpS P ops w0 tm Q df rest l ((d, g) :: U)) : wpS P ops w0 tm Q df rest (o :: l) U := by
  refine wpS_cons hd hlt hg (fun ρ w' _ hl => ?_) h
  obtain ⟨dst, op, type, pos, after, guard⟩ := o
  cases op with
  | pick c' a' b' =>
    cases c' with
    | tmp s' =>
      simp only [pickOf, Option.some.injEq, Prod.mk.injEq] at hop
      obtain ⟨rfl, rfl, rfl⟩ := hop
      have hs := hl s' (by simp [Oper.looksAt, Op.operands])
      rw [hk] at hs
      simp only [SV.sp] at hs
      have key : ∀ x : Operand, x ∈ [a', b'] → (opSV tm U x).sp (env ρ x) w' := by
        intro x hx
        cases x with
        | tmp r => exact hl r (by simp only [Oper.looksAt, Op.operands]; simp at hx; rcases hx with rfl | rfl <;> simp)
        | _ => exact rfl
      simp only [execOp, env, hs]
      simp [go_sem, RunsUpon]
      refine ⟨Ext.refl _, ?_⟩
      cases t with
      | true => simp only at hx; subst hx; exact key a' (by simp)
      | false => simp only at hx; subst hx; exact key b' (by simp)
    | _ => cases hop
  | _ => cases hop
/-- The frame behind the walk, slot by slot. -/
def finGo (tm : List Value) (w' : World) (U : List (Nat × SV)) : Nat → Nat → (List Value → Prop) → Prop
  | _, 0, k => k []
  | s, m + 1, k => match look tm U s with
    | .val c => finGo tm w' U (s + 1) m (fun l => k (c :: l))
    | .rep F _ => ∀ x, F x w' → finGo tm w' U (s + 1) m (fun l => k (x :: l))
theorem finV {w' : World} {s m : Nat} {k : List Value → Prop} {c : Value} (h : look tm U s = .val c) (hk : finGo tm w' U (s + 1) m (fun l => k (c :: l))) : finGo tm w' U s (m + 1) k := by
  rw [finGo, h]; exact hk
theorem finR {w' : World} {s m : Nat} {k : List Value → Prop} {F : SP} {hF : Stable F} (h : look tm U s = .rep F hF) (hk : ∀ x, F x w' → finGo tm w' U (s + 1) m (fun l => k (x :: l))) : finGo tm w' U s (m + 1) k := by
  rw [finGo, h]; exact hk
theorem finE {w' : World} {s : Nat} {k : List Value → Prop} (h : k []) : finGo tm w' U s 0 k := h
theorem finGo_spec {w' : World} : ∀ (m s : Nat) (k : List Value → Prop), finGo tm w' U s m k → fin w' ((List.range' s m).map (look tm U)) k
  | 0, s, k, h => h
  | m + 1, s, k, h => by
    rw [List.range'_succ, List.map_cons]
    rw [finGo] at h
    cases hl : look tm U s with
    | val c => rw [hl] at h; exact finGo_spec m (s + 1) _ h
    | rep F hF => rw [hl] at h; exact fun x hx => finGo_spec m (s + 1) _ (h x hx)
theorem wpS_end (h : ∀ w', Ext w0 w' → finGo tm w' U 0 tm.length (fun l => wpList P ops Q rest ⟨l.toArray, df⟩ w')) : wpS P ops w0 tm Q df rest [] U := by
  intro w' hx
  have := finGo_spec _ _ _ (h w' hx)
  rwa [← List.range_eq_range'] at this
theorem wpS_nil (gs : List SV) (hgs : finals tm U tm.length = gs) (h : ∀ w', Ext w0 w' → fin w' gs (fun l => wpList P ops Q rest ⟨l.toArray, df⟩ w')) : wpS P ops w0 tm Q df rest [] U := by
  intro w' hx
  rw [hgs]
  exact h w' hx
end
end Go.Proofs.Ytdpmojhejidhiaa
