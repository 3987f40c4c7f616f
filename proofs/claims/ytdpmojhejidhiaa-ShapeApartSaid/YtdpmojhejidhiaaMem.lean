/- What a slice reads as, what a call owns, and the laws of append, make and conversions over them. -/
import Derived.Test.YtdpmojhejidhiaaReg
import Derived.Laws.AppendOwnNone
import Derived.Laws.IdiomStrings
namespace Go.Proofs.Ytdpmojhejidhiaa
open Go.RowKit

/-- A slice that reads as these cells (sz of them an element). -/
def IsSl (sz : Nat) (cs : List Value) : SP := fun v w => ∃ a n cap, v = .slice a n cap ∧ cs.length = n * sz ∧ n ≤ cap ∧ cap ≤ maxLen ∧ (a = none → n = 0 ∧ cap = 0) ∧
  ∀ p, a = some p → ∀ j u, cs[j]? = some u → w.cell? (p.add j) = some u
/-- A slice that lies at the head of a block of our own (from block B on), or nil. -/
def Owns (B : Nat) (e : TypeId) (sz : Nat) (cs : List Value) : SP := fun v w => ∃ n, w.ownsRow B e sz v n cs

theorem cell_ext {w w' : World} (h : Ext w w') {a : Addr} {u : Value} (hc : w.cell? a = some u) : w'.cell? a = some u := by
  rw [h.cell (World.block_lt_of_cell? w a hc)]; exact hc
theorem IsSl.stable (sz : Nat) (cs : List Value) : Stable (IsSl sz cs) := by
  rintro v w w' ⟨a, n, cap, rfl, hl, hn, hc, ha, h⟩ hx
  exact ⟨a, n, cap, rfl, hl, hn, hc, ha, fun p hp j u hj => cell_ext hx (h p hp j u hj)⟩
theorem IsSl.ext {sz : Nat} {cs : List Value} {v : Value} {w w' : World} (h : IsSl sz cs v w) (hx : Ext w w') : IsSl sz cs v w' := IsSl.stable sz cs v w w' h hx
theorem Owns.stable (B : Nat) (e : TypeId) (sz : Nat) (cs : List Value) : Stable (Owns B e sz cs) := by
  rintro v w w' ⟨n, h⟩ hx
  exact ⟨n, h.kept (row := none) ⟨hx.os, hx.tape, hx.output, hx.size, fun k hk _ => hx.block k hk⟩ (by cases v.ownBlock <;> simp)⟩
theorem Owns.ext {B : Nat} {e : TypeId} {sz : Nat} {cs : List Value} {v : Value} {w w' : World} (h : Owns B e sz cs v w) (hx : Ext w w') : Owns B e sz cs v w' := Owns.stable B e sz cs v w w' h hx
theorem Owns.mono {B B' : Nat} {e : TypeId} {sz : Nat} {cs : List Value} {v : Value} {w : World} (h : Owns B e sz cs v w) (hB : B' ≤ B) : Owns B' e sz cs v w := by
  obtain ⟨n, h1, h2⟩ := h
  refine ⟨n, h1, ?_⟩
  rcases h2 with h2 | ⟨g, cap, cur, hv, hg, r⟩
  · exact .inl h2
  · exact .inr ⟨g, cap, cur, hv, by omega, r⟩
theorem Owns.nil (B : Nat) (e : TypeId) (sz : Nat) (w : World) : Owns B e sz [] (.slice none 0 0) w := ⟨0, World.ownsRow_nil w B e sz⟩
theorem addr_add (b o j : Nat) : (⟨b, o, none⟩ : Addr).add j = ⟨b, o + j, none⟩ := by unfold Addr.add; split <;> simp_all
theorem Owns.isSl {B : Nat} {e : TypeId} {sz : Nat} {cs : List Value} {v : Value} {w : World} (h : Owns B e sz cs v w) : IsSl sz cs v w := by
  obtain ⟨n, h⟩ := h
  have h' := h
  obtain ⟨h1, h2 | ⟨g, cap, cur, rfl, hg, hh, hn, hm, hs, ht⟩⟩ := h
  · obtain ⟨rfl, rfl⟩ := h2
    have hc : cs = [] := List.eq_nil_of_length_eq_zero (by simpa using h1)
    subst hc
    exact ⟨none, 0, 0, rfl, by simp, Nat.le_refl _, by simp [maxLen], fun _ => ⟨rfl, rfl⟩, fun p hp => by cases hp⟩
  · exact ⟨some ⟨g, 0, none⟩, n, cap, rfl, h1, hn, hm, (fun h => by cases h), fun p hp j u hj => by cases hp; exact h'.cells (g := g) rfl j u hj⟩
theorem Owns.lit (w : World) (e : TypeId) (sz : Nat) (cs : List Value) (n : Nat) (hn : cs.length = n * sz) (hm : n ≤ maxLen) :
    Owns w.heap.size e sz cs (.slice (some ⟨w.heap.size, 0, none⟩) n n) (w.alloc (.cells cs.toArray e)) := by
  have := World.ownsRow_lit (base := w.heap.size) (e := e) (size := sz) w cs.toArray n (Nat.le_refl _) hm (by simpa using hn)
  exact ⟨n, by simpa using this⟩
/-- A slice that is not empty, taken apart. -/
theorem IsSl.at {sz : Nat} {cs : List Value} {v : Value} {w : World} (h : IsSl sz cs v w) (hne : cs ≠ []) :
    ∃ b off n cap, v = .slice (some ⟨b, off, none⟩) n cap ∧ cs.length = n * sz ∧ n ≤ cap ∧ cap ≤ maxLen ∧ ∀ j u, cs[j]? = some u → w.cell? ⟨b, off + j, none⟩ = some u := by
  obtain ⟨a, n, cap, rfl, hl, hn, hc, ha, hcell⟩ := h
  cases a with
  | none =>
    obtain ⟨rfl, rfl⟩ := ha rfl
    exact absurd (List.eq_nil_of_length_eq_zero (by simpa using hl)) hne
  | some p =>
    obtain ⟨b, off, spot⟩ := p
    have h0 := hcell _ rfl 0 (cs[0]'(List.length_pos_iff.2 hne)) (by simp)
    have hspot : spot = none := by simpa [Addr.add] using World.cell?_spot h0
    subst hspot
    exact ⟨b, off, n, cap, rfl, hl, hn, hc, fun j u hj => by rw [← addr_add]; exact hcell _ rfl j u hj⟩
theorem Owns.at {B : Nat} {e : TypeId} {sz : Nat} {cs : List Value} {v : Value} {w : World} (h : Owns B e sz cs v w) (hne : cs ≠ []) :
    ∃ g n cap, v = .slice (some ⟨g, 0, none⟩) n cap ∧ B ≤ g ∧ cs.length = n * sz ∧ n ≤ cap ∧ cap ≤ maxLen ∧ ∀ j u, cs[j]? = some u → w.cell? ⟨g, j, none⟩ = some u := by
  obtain ⟨n, h⟩ := h
  have h' := h
  obtain ⟨h1, h2 | ⟨g, cap, cur, rfl, hg, hh, hn, hm, hs, ht⟩⟩ := h
  · obtain ⟨rfl, rfl⟩ := h2
    exact absurd (List.eq_nil_of_length_eq_zero (by simpa using h1)) hne
  · exact ⟨g, n, cap, rfl, hg, h1, hn, hm, fun j u hj => by have := h'.cells (g := g) rfl j u hj; rwa [addr_add, Nat.zero_add] at this⟩
theorem Owns.cellAt {B : Nat} {e : TypeId} {sz : Nat} {cs : List Value} {g n cap : Nat} {w : World} (h : Owns B e sz cs (.slice (some ⟨g, 0, none⟩) n cap) w) {j : Nat} {u : Value} (hj : cs[j]? = some u) : w.cell? ⟨g, j, none⟩ = some u := by
  obtain ⟨n', h⟩ := h
  have := h.cells (g := g) rfl j u hj
  rwa [addr_add, Nat.zero_add] at this
theorem IsSl.cellAt {sz : Nat} {cs : List Value} {b off n cap : Nat} {w : World} (h : IsSl sz cs (.slice (some ⟨b, off, none⟩) n cap) w) {j : Nat} {u : Value} (hj : cs[j]? = some u) : w.cell? ⟨b, off + j, none⟩ = some u := by
  obtain ⟨a, n', cap', he, _, _, _, _, h⟩ := h
  simp only [Value.slice.injEq] at he
  obtain ⟨rfl, _, _⟩ := he
  rw [← addr_add]
  exact h _ rfl j u hj
theorem IsSl.ptr {sz : Nat} {cs : List Value} {a : Option Addr} {n cap : Nat} {w : World} (h : IsSl sz cs (.slice a n cap) w) (hne : 0 < cs.length) : ∃ b off, a = some ⟨b, off, none⟩ := by
  obtain ⟨b, off, n', cap', he, _⟩ := h.at (List.length_pos_iff.1 hne)
  simp only [Value.slice.injEq] at he
  exact ⟨b, off, he.1⟩
theorem Ext.grown {w0 w w' : World} {e : TypeId} {sz : Nat} {cs : List Value} {v : Value} (hx : Ext w0 w) (ho : Owns w0.heap.size e sz cs v w) (hg : w.grownBy w' v.ownBlock) : Ext w0 w' := by
  obtain ⟨n, ho⟩ := ho
  exact Below.grown hx hg hx.size fun k hk => (ho.lt k hk).1
theorem Ext.grownNone {w w' : World} (hg : w.grownBy w' none) : Ext w w' := Below.grown (Below.refl _ _) hg (Nat.le_refl _) (fun k hk => by cases hk)
theorem Ext.allocs {w0 w : World} (hx : Ext w0 w) (o : Obj) : Ext w0 (w.alloc o) := hx.trans (Ext.alloc w o)
theorem Ext.drews {w0 w : World} (hx : Ext w0 w) : Ext w0 w.drew := Below.drew hx
theorem Ext.setCells {w0 w : World} (hx : Ext w0 w) {p : Addr} (hp : w0.heap.size ≤ p.block) (u : Value) : Ext w0 (w.setCell p u) := Below.setCell hx hp u

/-- Blocks of cells of another type than e are as they were. -/
def Other (e : TypeId) (w w' : World) : Prop := ∀ (g : Nat) (cur : Array Value) (e' : TypeId) (fr : Nat × Nat), w.heap[g]? = some (Obj.cells cur e' fr) → e' ≠ e → w'.heap[g]? = some (Obj.cells cur e' fr)
theorem Other.refl (e : TypeId) (w : World) : Other e w w := fun _ _ _ _ h _ => h
theorem Other.trans {e : TypeId} {a b c : World} (h : Other e a b) (k : Other e b c) : Other e a c := fun g cur e' fr h1 h2 => k g cur e' fr (h g cur e' fr h1 h2) h2
theorem Ext.other {w w' : World} (h : Ext w w') (e : TypeId) : Other e w w' := fun g cur e' fr h1 _ => by
  rw [h.block g (Array.getElem?_eq_some_iff.1 h1).1]; exact h1
theorem Other.grown {e : TypeId} {sz : Nat} {B : Nat} {cs : List Value} {v : Value} {w w' : World} (ho : Owns B e sz cs v w) (hg : w.grownBy w' v.ownBlock) : Other e w w' := by
  intro g cur e' fr h1 h2
  rw [hg.block g (Array.getElem?_eq_some_iff.1 h1).1 fun hrow => ?_]; exact h1
  obtain ⟨n, _, ⟨rfl, _⟩ | ⟨g', cap, cur', rfl, _, hh, _⟩⟩ := ho
  · simp [Value.ownBlock] at hrow
  · simp only [Value.ownBlock, Option.some.injEq] at hrow
    subst hrow
    rw [hh] at h1
    simp only [Option.some.injEq, Obj.cells.injEq] at h1
    exact h2 h1.2.1.symm
theorem Owns.other {B : Nat} {e e' : TypeId} {sz : Nat} {cs : List Value} {v : Value} {w w' : World} (h : Owns B e sz cs v w) (ho : Other e' w w') (hne : e ≠ e') : Owns B e sz cs v w' := by
  obtain ⟨n, h1, h2⟩ := h
  refine ⟨n, h1, ?_⟩
  rcases h2 with h2 | ⟨g, cap, cur, hv, hg, hh, r⟩
  · exact .inl h2
  · exact .inr ⟨g, cap, cur, hv, hg, ho g cur e _ hh hne, r⟩
/-- A new block that holds just these cells. -/
theorem IsSl.litF (w : World) (e : TypeId) (fr : Nat × Nat) (sz : Nat) (cs : List Value) (n : Nat) (hn : cs.length = n * sz) (hm : n ≤ maxLen) :
    IsSl sz cs (.slice (some ⟨w.heap.size, 0, none⟩) n n) (w.alloc (.cells cs.toArray e fr)) :=
  ⟨_, n, n, rfl, hn, Nat.le_refl _, hm, (fun h => by cases h), fun p hp j u hj => by
    cases hp
    rw [addr_add, Nat.zero_add, World.cell?_alloc_mark]
    simpa using hj⟩
theorem IsSl.lit (w : World) (e : TypeId) (sz : Nat) (cs : List Value) (n : Nat) (hn : cs.length = n * sz) (hm : n ≤ maxLen) :
    IsSl sz cs (.slice (some ⟨w.heap.size, 0, none⟩) n n) (w.alloc (.cells cs.toArray e)) :=
  ⟨_, n, n, rfl, hn, Nat.le_refl _, hm, (fun h => by cases h), fun p hp j u hj => by
    cases hp
    rw [addr_add, Nat.zero_add, World.cell?_alloc_new]
    simpa using hj⟩

section
variable {P : Program}
/-- What a type's element is: its zero, cells, bytes. -/
structure Elem (P : Program) (t e : TypeId) (sz by_ : Nat) (z : Value) : Prop where
  slice : P.underlying t = some (.slice e)
  info : (P.info? e).map (fun i => (i.zero, i.size, i.bytes)) = some (some z, sz, by_)
  zs : z.cells.size = sz
  pos : 0 < sz
  byp : 0 < by_
theorem run_app {t e : TypeId} {sz by_ : Nat} {z : Value} (E : Elem P t e sz by_ z) (ty : TypeId) {B : Nat} {xs news : List Value} {v x : Value} {w : World}
    (ho : Owns B e sz xs v w) (hs : IsSl sz news x w) (h1 : ∀ u ∈ news, u.oneCell' = true) (hlen : (xs.length + news.length) * by_ ≤ 140737488355328) (hl2 : xs.length + news.length ≤ maxLen) (hB : B ≤ w.heap.size) :
    ∃ v' w', (Builtin.append_ #[t, t] ty #[v, x]).run P w = .ok v' w' ∧ Owns B e sz (xs ++ news) v' w' ∧ w.grownBy w' v.ownBlock := by
  obtain ⟨n, ho⟩ := ho
  obtain ⟨a, m, cap, rfl, hl, hm, hcap, ha, hc⟩ := hs
  obtain ⟨i, hi, hz, h4, h5⟩ := info_parts E.info
  have hx := ho.1
  have hpos := E.pos
  cases a with
  | none =>
    obtain ⟨rfl, rfl⟩ := ha rfl
    have hn : news = [] := List.eq_nil_of_length_eq_zero (by simpa using hl)
    subst hn
    refine ⟨v, w, run_append_owned_none (P := P) (w := w) B t ty e i sz E.slice hi v n xs ho, ⟨n, by simpa using ho⟩, World.grownBy.refl _ _⟩
  | some p =>
    have e1 : n ≤ xs.length := by rw [hx]; exact Nat.le_mul_of_pos_right _ hpos
    have e2 : m ≤ news.length := by rw [hl]; exact Nat.le_mul_of_pos_right _ hpos
    obtain ⟨v', w', hr, h2, h3, _⟩ := run_append_own (P := P) w B t ty e i z sz by_ E.slice hi hz h4 h5 E.zs E.pos v n xs ho p m cap news hl (hc p rfl) h1 (by omega)
      (Nat.le_trans (Nat.mul_le_mul_right _ (by omega)) hlen) hB
    exact ⟨v', w', hr, ⟨n + m, h2⟩, h3⟩
/-- 'append(s, x...)', s our own, x whatever slice. -/
theorem wpList_app {t e : TypeId} {sz by_ : Nat} {z : Value} (E : Elem P t e sz by_ z) {w : World} {ops : Array Oper} {rest : List Oper} {o : Oper} {a : Act} {Q : Exit → Act → World → Prop} (hgd : o.guard = none) (s x : Operand)
    (hop : o.op = .call { callee := .builtin .append, args := #[s, x], argTypes := #[t, t] })
    {B : Nat} {xs news : List Value} {v u : Value} (hs : a.eval s = v) (hx : a.eval x = u) (ho : Owns B e sz xs v w) (hn : IsSl sz news u w) (h1 : ∀ u ∈ news, u.oneCell' = true)
    (hlen : (xs.length + news.length) * by_ ≤ 140737488355328) (hl2 : xs.length + news.length ≤ maxLen) (hB : B ≤ w.heap.size)
    (h : ∀ v' w', Owns B e sz (xs ++ news) v' w' → w.grownBy w' v.ownBlock → wpList P ops Q rest (a.put o.dst v') w') : wpList P ops Q (o :: rest) a w := by
  refine wpList_plain hgd fun K hK => ?_
  obtain ⟨v', w', hrun, r1, r2⟩ := run_app E o.type ho hn h1 hlen hl2 hB
  unfold Oper.wp
  simp [execOp, hop, resolve, invoke, builtin, hs, hx, hrun, Result.andThen]
  exact hK _ _ (h v' w' r1 r2)
/-- The same, told by what the call has made since it began in w0. -/
theorem wpList_appx {t e : TypeId} {sz by_ : Nat} {z : Value} (E : Elem P t e sz by_ z) {w0 w : World} {ops : Array Oper} {rest : List Oper} {o : Oper} {a : Act} {Q : Exit → Act → World → Prop} (hgd : o.guard = none) (s x : Operand)
    (hop : o.op = .call { callee := .builtin .append, args := #[s, x], argTypes := #[t, t] })
    {xs news : List Value} {v u : Value} (hs : a.eval s = v) (hx : a.eval x = u) (hw : Ext w0 w) (ho : Owns w0.heap.size e sz xs v w) (hn : IsSl sz news u w) (h1 : ∀ u ∈ news, u.oneCell' = true)
    (hlen : (xs.length + news.length) * by_ ≤ 140737488355328)
    (h : ∀ v' w', Owns w0.heap.size e sz (xs ++ news) v' w' → Ext w0 w' → Other e w w' → wpList P ops Q rest (a.put o.dst v') w') : wpList P ops Q (o :: rest) a w := by
  have hl2 : xs.length + news.length ≤ maxLen := by
    have := Nat.le_mul_of_pos_right (xs.length + news.length) E.byp
    unfold maxLen; omega
  exact wpList_app E hgd s x hop hs hx ho hn h1 hlen hl2 hw.size fun v' w' h2 h3 => h v' w' h2 (hw.grown ho h3) (Other.grown ho h3)
/-- 'append(s, x)', x a literal of n elements in a block of its own. -/
theorem wpList_push {t e : TypeId} {sz by_ : Nat} {z : Value} (E : Elem P t e sz by_ z) {w0 w : World} {ops : Array Oper} {rest : List Oper} {o : Oper} {a : Act} {Q : Exit → Act → World → Prop} (hgd : o.guard = none) (s x : Operand)
    (hop : o.op = .call { callee := .builtin .append, args := #[s, x], argTypes := #[t, t] }) {e2 : TypeId}
    {xs : List Value} (cs : List Value) {v : Value} (hs : a.eval s = v) (hx : a.eval x = .slice (some ⟨w.heap.size, 0, none⟩) 1 1) (hw : Ext w0 w) (ho : Owns w0.heap.size e sz xs v w)
    (hcs : cs.length = sz) (h1 : ∀ u ∈ cs, u.oneCell' = true) (hlen : (xs.length + cs.length) * by_ ≤ 140737488355328)
    (h : ∀ v' w', Owns w0.heap.size e sz (xs ++ cs) v' w' → Ext w0 w' → Other e w w' → wpList P ops Q rest (a.put o.dst v') w') : wpList P ops Q (o :: rest) a (w.alloc (.cells cs.toArray e2)) :=
  wpList_appx E hgd s x hop hs hx (hw.allocs _) (ho.ext (Ext.alloc _ _)) (IsSl.lit w e2 sz cs 1 (by omega) (by unfold maxLen; omega)) h1 hlen fun v' w' h2 h3 h4 => h v' w' h2 h3 (((Ext.alloc w _).other e).trans h4)
/-- 'make([]T, 0, n)'. -/
theorem wpList_mk {t e : TypeId} {sz by_ : Nat} {z : Value} (E : Elem P t e sz by_ z) {w : World} {ops : Array Oper} {rest : List Oper} {o : Oper} {a : Act} {Q : Exit → Act → World → Prop} (hgd : o.guard = none) (l c : Operand)
    (hop : o.op = Op.makeSlice t l c) {kl kc : IntKind} {C : Int} (hl : a.eval l = .int kl 0) (hc : a.eval c = .int kc C) (h0 : 0 ≤ C) (h1 : C * by_ ≤ 281474976710656) (h2 : C ≤ 9223372036854775807)
    (h : ∀ v' w', Owns w.heap.size e sz [] v' w' → Ext w w' → wpList P ops Q rest (a.put o.dst v') w') : wpList P ops Q (o :: rest) a w := by
  obtain ⟨i, hi, hz, h4, h5⟩ := info_parts E.info
  obtain ⟨n, rfl⟩ := Int.eq_ofNat_of_zero_le h0
  have h3 : ((n * by_ : Nat) : Int) ≤ 281474976710656 := by rw [Int.natCast_mul]; exact h1
  have hb : i.bytes * n ≤ 281474976710656 := by rw [h5, Nat.mul_comm]; omega
  exact wpList_make_own w hgd l c t hop w.heap.size e i z sz E.slice hi hz h4 kl kc n n hl hc rfl hb (by unfold maxLen; omega) (Nat.le_refl _)
    fun w' ho hg => h _ w' ⟨0, ho⟩ (Ext.grownNone hg)
end

/-- Bytes as cells. -/
def bytesC (l : List UInt8) : List Value := l.map fun b => .int .u8 b.toNat
theorem bytesC_length (l : List UInt8) : (bytesC l).length = l.length := by simp [bytesC]
theorem bytesC_append (l r : List UInt8) : bytesC (l ++ r) = bytesC l ++ bytesC r := by simp [bytesC]
theorem bytesC_one (l : List UInt8) : ∀ u ∈ bytesC l, u.oneCell' = true := by
  intro u hu
  obtain ⟨b, _, rfl⟩ := List.mem_map.1 hu
  rfl
abbrev IsBytes (l : List UInt8) : SP := IsSl 1 (bytesC l)
theorem run_str {P : Program} {src e dst : TypeId} (hs : P.underlying src = some (.slice e)) (he : P.underlying e = some (.int .u8)) (hd : P.underlying dst = some .string)
    {l : List UInt8} {v : Value} {w : World} (h : IsBytes l v w) : (convert src dst v).run P w = .ok (.string ⟨l.toArray⟩) w := by
  obtain ⟨a, n, cap, rfl, hl, hn, hc, ha, hcell⟩ := h
  rw [bytesC_length, Nat.mul_one] at hl
  cases a with
  | none =>
    obtain ⟨rfl, rfl⟩ := ha rfl
    have : l = [] := List.eq_nil_of_length_eq_zero hl
    subst this
    exact run_convert_bytes_nil w src e hs he 0 0 dst hd
  | some p =>
    subst hl
    exact run_convert_bytes_back w src dst e p cap l hs he hd fun j hj => hcell p rfl j _ (by simp [bytesC, hj])

theorem Gives.isSl {P : Program} {f : FuncId} {args : Array Value} {w : World} {B : Nat} {e : TypeId} {sz : Nat} {cs : List Value} (h : Gives P f args w (Owns B e sz cs)) : Gives P f args w (IsSl sz cs) :=
  h.mono fun _ _ ho => ho.isSl
theorem Gives.base {P : Program} {f : FuncId} {args : Array Value} {w : World} {B B' : Nat} {e : TypeId} {sz : Nat} {cs : List Value} (h : Gives P f args w (Owns B e sz cs)) (hB : B' ≤ B) : Gives P f args w (Owns B' e sz cs) :=
  h.mono fun _ _ ho => ho.mono hB
/-- A conversion of bytes to a text, in a drawn region. -/
def convOf : Op → Option (TypeId × TypeId × Nat)
  | .convert s d (.tmp t) => some (s, d, t)
  | _ => none
section
variable {P : Program} {ops : Array Oper} {w0 : World} {tm : List Value} {Q : Exit → Act → World → Prop} {df : List Deferred} {rest l : List Oper} {U : List (Nat × SV)} {o : Oper} {d : Nat}
theorem wpS_conv {S D s : Nat} {g : SV} {c : Value} (hd : o.dst = some d) (hlt : Nat.blt d tm.length = true) (hg : gYes ops tm U o = true) (hop : convOf o.op = some (S, D, s))
    (hk : look tm U s = g) (hr : ∀ v w', Ext w0 w' → g.sp v w' → (convert S D v).run P w' = .ok c w')
    (h : wpS P ops w0 tm Q df rest l ((d, .val c) :: U)) : wpS P ops w0 tm Q df rest (o :: l) U := by
  refine wpS_cons hd hlt hg (fun ρ w' hx hl => ?_) h
  obtain ⟨dst, op, type, pos, after, guard⟩ := o
  cases op with
  | convert s' d' x =>
    cases x with
    | tmp t' =>
      simp only [convOf, Option.some.injEq, Prod.mk.injEq] at hop
      obtain ⟨rfl, rfl, rfl⟩ := hop
      have hs := hl t' (by simp [Oper.looksAt, Op.operands])
      rw [hk] at hs
      have := hr _ w' hx hs
      simp only [execOp, env, Sem.run_bind, this, Result.andThen_ok, Sem.run_pure, RunsUpon]
      exact ⟨Ext.refl _, rfl⟩
    | _ => cases hop
  | _ => cases hop
theorem wpS_str {S D e s : Nat} {b : List UInt8} {hst : Stable (IsSl 1 (bytesC b))} (hd : o.dst = some d) (hlt : Nat.blt d tm.length = true) (hg : gYes ops tm U o = true) (hop : convOf o.op = some (S, D, s))
    (hS : P.underlying S = some (.slice e)) (he : P.underlying e = some (.int .u8)) (hD : P.underlying D = some .string) (hk : look tm U s = .rep (IsSl 1 (bytesC b)) hst)
    (h : wpS P ops w0 tm Q df rest l ((d, .val (.string ⟨b.toArray⟩)) :: U)) : wpS P ops w0 tm Q df rest (o :: l) U :=
  wpS_conv hd hlt hg hop hk (fun _ _ _ hv => run_str hS he hD hv) h
theorem wpS_strV {S D e s : Nat} {b : List UInt8} {v : Value} (hd : o.dst = some d) (hlt : Nat.blt d tm.length = true) (hg : gYes ops tm U o = true) (hop : convOf o.op = some (S, D, s))
    (hS : P.underlying S = some (.slice e)) (he : P.underlying e = some (.int .u8)) (hD : P.underlying D = some .string) (hk : look tm U s = .val v) (hv : IsBytes b v w0)
    (h : wpS P ops w0 tm Q df rest l ((d, .val (.string ⟨b.toArray⟩)) :: U)) : wpS P ops w0 tm Q df rest (o :: l) U :=
  wpS_conv hd hlt hg hop hk (fun _ _ hx he => by simp only [SV.sp] at he; subst he; exact run_str hS ‹_› hD (hv.ext hx)) h
end
end Go.Proofs.Ytdpmojhejidhiaa
