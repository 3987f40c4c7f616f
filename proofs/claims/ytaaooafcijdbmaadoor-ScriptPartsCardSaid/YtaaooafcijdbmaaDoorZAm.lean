/- len, make, copy, slices of slices, strings, parts of structs. -/
import Derived.Test.YtaaooafcijdbmaaDoorZReg
import Derived.Lib.AppendStr
import Derived.IntWalk
import Derived.Laws.AppendOwnNone
import Derived.Laws.IdiomStrings
import Derived.Laws.StructEq
import Derived.ProofKit
import Derived.OpenShut
import Derived.ShutString
import Derived.ChangeOld
import Derived.Carry
import Derived.DataElems
import Derived.Test.YtaaooafcijdbmaaDoorChecked
import Derived.Test.YtaaooafcijdbmaaDoorProg
import Derived.ScopeJumps
import Derived.ChangeKeysEq
import Derived.Lib.AppendZeros
set_option linter.unusedVariables false
set_option linter.unusedSimpArgs false
namespace Go.Proofs.YtaaooafcijdbmaaDoor.K
open Go.RowKit Go.Lib

def byteD (b : UInt8) : D := .lit (.int .u8 b.toNat)
def bytesD (l : List UInt8) : List D := l.map byteD
@[simp] theorem bytesD_length (l : List UInt8) : (bytesD l).length = l.length := by simp [bytesD]
theorem bytesD_append (l r : List UInt8) : bytesD (l ++ r) = bytesD l ++ bytesD r := by simp [bytesD]
section
variable {P : Program} {o : Oper} {st : St}
theorem op_len_str {t : TypeId} {x : Operand} {s : ByteArray} (ho : o.op = .call ⟨.builtin .len, #[x], #[t]⟩) (hu : P.underlying t = some .string) (hx : opA st x = .d (.lit (.string s))) : OpRun P o st (locOf x) (.d (.lit (.int .i64 s.size))) [] := by
  refine .pure fun st' hl cx m S a w hs => ⟨.int .i64 s.size, ?_, by simp only [Rep]; unfold RepD; exact ⟨rfl, rfl⟩⟩
  have h1 := op_lit hx (fun _ h => h) hl hs
  simp [execOp, ho, resolve, invoke, builtin, Builtin.len_, run_underlying hu, h1, goInt]
theorem op_len {t e : TypeId} {x : Operand} {y : A} {ds : List D} {off n : Nat} (ho : o.op = .call ⟨.builtin .len, #[x], #[t]⟩) (hu : P.underlying t = some (.slice e)) (hx : opA st x = y) (hy : sliceAt st.H y = some (ds, off, n)) : OpRun P o st (locOf x ++ locA y) (.d (.lit (.int .i64 n))) [] := by
  refine .pure fun st' hag cx m S a w hs => ⟨.int .i64 n, ?_, by simp only [Rep]; unfold RepD; exact ⟨rfl, rfl⟩⟩
  have hr := op_rep hx (R := locOf x ++ locA y) (fun l h => by simp [h]) hag hs
  rw [← sliceA_agree fun l h => hag l (by simp [h])] at hy
  obtain ⟨p, cap, hv, _⟩ := sliceAt_spec hs.hold hy hr
  simp [execOp, ho, resolve, invoke, builtin, Builtin.len_, run_underlying hu, hv, goInt]
theorem op_bi2 {b : Builtin} {t u : TypeId} {x y : Operand} {a1 a2 v : Value} (ho : o.op = .call ⟨.builtin b, #[x, y], #[t, u]⟩) (hx : opA st x = .d (.lit a1)) (hy : opA st y = .d (.lit a2)) (hrun : ∀ ty cs w, (builtin b #[t, u] ty cs #[a1, a2]).run P w = .ok (.value v) w) (h1 : v.oneCell' = true := by rfl) :
    OpRun P o st (locsOf [x, y]) (.d (.lit v)) [] := by
  refine .pure fun st' hl cx m S a w hs => ⟨v, ?_, by simp only [Rep]; unfold RepD; exact ⟨rfl, h1⟩⟩
  have e1 := op_lit hx (R := locsOf [x, y]) (fun l h => by simp [locsOf, h]) hl hs
  have e2 := op_lit hy (R := locsOf [x, y]) (fun l h => by simp [locsOf, h]) hl hs
  simp [execOp, ho, resolve, invoke, e1, e2]
  exact hrun _ _ w
theorem flat_get {α : Type} {l : List α} : ∀ (n i : Nat), i < n * l.length → ((List.replicate n l).flatten)[i]? = l[i % l.length]?
  | 0, i, h => by simp at h
  | n + 1, i, h => by
    rw [List.replicate_succ, List.flatten_cons, List.getElem?_append]
    split
    · rename_i hi; rw [Nat.mod_eq_of_lt hi]
    · rename_i hi
      have hl : l.length ≤ i := by omega
      rw [flat_get n (i - l.length) (by rw [Nat.add_mul] at h; omega), Nat.mod_eq_sub_mod hl]
theorem made_flat (z : Array Value) (n : Nat) (hz : 0 < z.size) : (madeCells z (n * z.size)).toList = (List.replicate n z.toList).flatten := by
  apply List.ext_getElem?
  intro i
  by_cases hi : i < n * z.size
  · rw [flat_get n i (by simpa using hi)]
    have hlt : i % z.size < z.size := Nat.mod_lt _ hz
    simp [madeCells, hi, hlt]
  · rw [List.getElem?_eq_none (by simp [madeCells]; omega), List.getElem?_eq_none (by simp; omega)]
def litD : Value → D
  | .slice none 0 0 => .sl 0 []
  | v => .lit v
theorem litD_rep {S : Nat → Prop} {w : World} {v : Value} (h : v.oneCell' = true) : RepD S w (litD v) v := by
  unfold litD
  split
  · exact RepD.nn (x := .nil) (by simp only [RepD])
  · unfold RepD; exact ⟨rfl, h⟩
/-- 'make([]T, n)'. -/
theorem op_make {t e sz by_ nid n : Nat} {z : Value} {l c : Operand} {kl kc : IntKind} {L C : Int} (ho : o.op = .makeSlice t l c) (E : ElemOK P t e sz by_ z) (hone : z.cells.toList.all (·.oneCell') = true) (hl : opA st l = .d (.lit (.int kl L))) (hc : opA st c = .d (.lit (.int kc C))) (hL : L = n) (hC : C = n)
    (hbytes : by_ * n ≤ 281474976710656) (hnid : st.H.getD nid .unborn = .unborn) : OpRun P o st (locsOf [l, c] ++ [.blk nid]) (.own nid) [(nid, .arr e sz n (List.replicate n (z.cells.toList.map litD)).flatten)] := by
  refine .value fun st' hag cx m S a w hs => ?_
  have hnid' : st'.H.getD nid .unborn = .unborn := (blk1 (by simp) hag).trans hnid
  have e1 := op_lit hl (R := locsOf [l, c] ++ [.blk nid]) (fun l h => by simp [locsOf, h]) hag hs
  have e2 := op_lit hc (R := locsOf [l, c] ++ [.blk nid]) (fun l h => by simp [locsOf, h]) hag hs
  obtain ⟨i, hi, hz, h4, h5⟩ := E.parts
  have hm : n ≤ maxLen := by
    have := Nat.le_mul_of_pos_left n E.byp
    unfold maxLen; omega
  have hrun := run_make (P := P) w t e i z E.slice hi hz kl kc n n (by omega) (Int.le_refl _) (by rw [h5, ← Int.natCast_mul]; omega) (by unfold maxLen at hm; omega)
  simp only [Int.toNat_natCast] at hrun
  have hz1 := E.zs
  have h1 : ones z.cells.toList := fun v hv => List.all_eq_true.1 hone v hv
  have hflat : (madeCells z.cells (n * i.size)).toList = (List.replicate n z.cells.toList).flatten := by
    rw [h4, ← hz1]; exact made_flat _ _ (by rw [hz1]; exact E.pos)
  have hmem : ∀ v ∈ (List.replicate n z.cells.toList).flatten, v.oneCell' = true := fun v hv => by
    obtain ⟨l, hl, hv⟩ := List.mem_flatten.1 hv
    rw [(List.mem_replicate.1 hl).2] at hv
    exact h1 v hv
  have hlen : (madeCells z.cells (n * i.size)).size = n * sz := by rw [size_madeCells, h4]
  obtain ⟨m', k1, k2, k3, k4⟩ := hold_row (e := e) (sz := sz) (n := n) (cap := n) (ds := (List.replicate n (z.cells.toList.map litD)).flatten) (us := (List.replicate n z.cells.toList).flatten) (cur := madeCells z.cells (n * i.size)) hs.hold hnid'
    ⟨by rw [List.length_flatten, List.length_flatten, List.map_replicate, List.map_replicate, List.length_map], fun j x v hx hv => by
      have : (List.replicate n (z.cells.toList.map litD)).flatten = ((List.replicate n z.cells.toList).flatten).map litD := by rw [List.map_flatten, List.map_replicate]
      rw [this, List.getElem?_map, hv] at hx
      cases hx
      exact litD_rep (hmem v (List.mem_of_getElem? hv))⟩ hmem (by rw [List.length_flatten, List.map_replicate, List.sum_replicate_nat, Array.length_toList, hz1]) (Nat.le_refl _) hm hlen (by rw [List.take_of_length_le (by simp [hlen]), hflat])
  refine ⟨_, _, m', S, ?_, k1, fun _ h => h, k2, k3, k4 _⟩
  subst hL; subst hC
  simp [execOp, ho, e1, e2, hrun]

/-! ### copy -/
/-- A row of our own, from a cell on, and its length. -/
def rowAt (H : List Blk) : A → Option (Nat × Nat × Nat)
  | .own id => match H.getD id .unborn with | .arr _ _ n _ => some (id, 0, n) | _ => none
  | .sub id off n => some (id, off, n)
  | _ => none
theorem run_copyN {t ts ty e : TypeId} {i : TypeInfo} {w : World} {g off dLen dCap k : Nat} {src : Value} {cur : Array Value} {T : TypeId} {us : List Value} (hu : P.underlying t = some (.slice e)) (hi : P.info? e = some i) (hlen : (Builtin.lenOf src).run P w = .ok k w) (hcells : (Builtin.firstCells i.size k src).run P w = .ok us.toArray w)
    (hle : k ≤ dLen) (hg : RowAt w g cur T) (hfit : off + us.length ≤ cur.size) (h1 : ones us) :
    (Builtin.copy_ #[t, ts] ty #[.slice (some ⟨g, off, none⟩) dLen dCap, src]).run P w = .ok (goInt k) (w.setRow g (putC cur.toList off us).toArray) := by
  have hst := run_storeCells_row P g off T us 0 cur w hg (by simpa using hfit) h1
  simp only [Nat.add_zero] at hst
  have hmin : Nat.min k dLen = k := Nat.min_eq_left hle
  simp [Builtin.copy_, run_underlying hu, sizeOf, typeInfo, hi, hlen, hmin, hcells, hst, putC]
theorem run_copy0 {t ts ty e : TypeId} {i : TypeInfo} {w : World} {p : Option Addr} {dLen dCap : Nat} {src : Value} (hu : P.underlying t = some (.slice e)) (hi : P.info? e = some i) (hlen : (Builtin.lenOf src).run P w = .ok 0 w) (hcells : (Builtin.firstCells i.size 0 src).run P w = .ok #[] w) :
    (Builtin.copy_ #[t, ts] ty #[.slice p dLen dCap, src]).run P w = .ok (goInt 0) w := by
  have hmin : Nat.min 0 dLen = 0 := Nat.min_eq_left (Nat.zero_le _)
  cases p <;> simp [Builtin.copy_, run_underlying hu, sizeOf, typeInfo, hi, hlen, hmin, hcells, storeCells]
theorem hold_same {cx : Cx} {m : Mp} {S : Nat → Prop} {w : World} {H : List Blk} {id : Nat} {b : Blk} (h : Hold cx m S w H) (hb : H.getD id .unborn = b) : Hold cx m S w (setAt H id b) := h.congr fun j => by
  rw [getD_setAt]
  split
  · rename_i hj; subst hj; exact hb.symm
  · rfl
theorem op_copy {t ts e sz id off dn k soff n : Nat} {d s : Operand} {y yd : A} {xs ds es : List D} (ho : o.op = .call ⟨.builtin .copy, #[d, s], #[t, ts]⟩) (he : sliceElem P t = some (e, sz)) (hd : opA st d = yd) (hrow : rowAt st.H yd = some (id, off, dn)) (hb : st.H.getD id .unborn = .arr e sz n xs) (hx : opA st s = y) (hy : sliceAt st.H y = some (ds, soff, k))
    (hes : (ds.drop soff).take (k * sz) = es) (hel : es.length = k * sz) (hle : k ≤ dn) (hfit : off + es.length ≤ xs.length) (hsz0 : 0 < sz) : OpRun P o st (locsOf [d, s] ++ (locA y ++ [.blk id])) (.d (.lit (.int .i64 k))) [(id, .arr e sz n (putC xs off es))] := by
  refine .value fun st' hag cx m S a w hs => ?_
  have hb' : st'.H.getD id .unborn = .arr e sz n xs := (blk1 (by simp) hag).trans hb
  have hrd := op_rep hd (R := locsOf [d, s] ++ (locA y ++ [.blk id])) (fun l h => by simp [locsOf, h]) hag hs
  have hrx := op_rep hx (R := locsOf [d, s] ++ (locA y ++ [.blk id])) (fun l h => by simp [locsOf, h]) hag hs
  rw [← sliceA_agree fun l h => hag l (by simp [h])] at hy
  obtain ⟨p, cap, hv, h1, h2, h3, h4⟩ := sliceAt_spec hs.hold hy hrx
  obtain ⟨us, k1, k2, k3⟩ := cells_news h4 hes
  have hok := hs.hold.ok id
  rw [hb'] at hok
  obtain ⟨v, h5, h6, h9⟩ := hok
  obtain ⟨hu, inf, hinf, hsz⟩ := sliceElem_spec he
  by_cases hpos : 0 < xs.length
  case neg =>
    have hx0 : xs = [] := List.eq_nil_of_length_eq_zero (by omega)
    subst hx0
    have he0 : es = [] := List.eq_nil_of_length_eq_zero (by rw [List.length_nil] at hfit; omega)
    have hk0 : k = 0 := by
      rw [he0] at hel
      rcases Nat.mul_eq_zero.1 hel.symm with h | h
      · exact h
      · omega
    subst he0; subst hk0
    have hdv : ∃ p' n' c', a.eval d = .slice p' n' c' := by
      cases yd with
      | own id' =>
        simp only [rowAt] at hrow
        split at hrow
        · cases hrow
          simp only [Rep, h5] at hrd
          obtain ⟨pa, cap', r1, _⟩ := row_slice h6
          exact ⟨pa, _, cap', by rw [hrd.1]; exact r1⟩
        · cases hrow
      | sub id' off' n' =>
        simp only [rowAt] at hrow
        cases hrow
        simp only [Rep, h5] at hrd
        obtain ⟨g', c', _, he', _⟩ := hrd
        exact ⟨_, _, _, he'⟩
      | _ => cases hrow
    obtain ⟨p', n', c', hdv⟩ := hdv
    have hlenOf : (Builtin.lenOf (a.eval s)).run P w = .ok 0 w := by rw [hv]; rfl
    have hfirst : (Builtin.firstCells inf.size 0 (a.eval s)).run P w = .ok #[] w := by
      rw [hv]
      cases p with
      | none => rfl
      | some q => simp [Builtin.firstCells, loadCells, loadCellsFrom]
    refine ⟨_, w, m, S, ?_, Le.refl m, fun _ h => h, Keeps.refl S w, hold_same hs.hold (by rw [hb']; simp [putC]), by simp only [Rep]; unfold RepD; exact ⟨rfl, rfl⟩⟩
    simp [execOp, ho, resolve, invoke, builtin, hdv, run_copy0 (P := P) (ts := ts) (ty := o.type) hu hinf hlenOf hfirst, goInt]
  have key : ∃ g dCap, v.ownBlock = some g ∧ a.eval d = .slice (some ⟨g, off, none⟩) dn dCap := by
    obtain ⟨pa, cap', r1, r2, r3, r4, r5, r6⟩ := row_slice h6
    have hpa : ∃ q, pa = some q := by
      cases pa with
      | some q => exact ⟨q, rfl⟩
      | none =>
        obtain ⟨hn0, _⟩ := r4 rfl
        obtain ⟨cells, ⟨hl, _⟩, hr, _⟩ := h6
        rw [hn0, Nat.zero_mul] at hl
        have := hr.1
        omega
    obtain ⟨q, rfl⟩ := hpa
    obtain ⟨g, rfl, hg⟩ := r6 q rfl
    cases yd with
    | own id' =>
      simp only [rowAt] at hrow
      split at hrow
      · rename_i e' sz' n' xs' hbb
        cases hrow
        rw [hb] at hbb; cases hbb
        simp only [Rep, h5] at hrd
        exact ⟨g, cap', hg, by rw [hrd.1]; exact r1⟩
      · cases hrow
    | sub id' off' n' =>
      simp only [rowAt] at hrow
      cases hrow
      simp only [Rep, h5] at hrd
      obtain ⟨g', c', hg', he', _⟩ := hrd
      exact ⟨g', c', hg', he'⟩
    | _ => cases hrow
  obtain ⟨g, dCap, hg, hev⟩ := key
  obtain ⟨cur, T, h10, h11, h12⟩ := rowOK_put h6 hg k1 k2 hfit
  have hlenOf : (Builtin.lenOf (a.eval s)).run P w = .ok k w := by rw [hv]; rfl
  have hfirst : (Builtin.firstCells inf.size k (a.eval s)).run P w = .ok us.toArray w := by
    rw [hv, hsz]
    cases p with
    | none =>
      obtain ⟨hk0, _⟩ := h3 rfl
      have : us = [] := List.eq_nil_of_length_eq_zero (by rw [k1.1, hel, hk0]; simp)
      subst this
      rfl
    | some q =>
      have := run_loadCells_list (P := P) (w := w) q us (fun j u hj => k3 q rfl j u hj)
      rw [k1.1, hel] at this
      simpa [Builtin.firstCells] using this
  have hrun := run_copyN (P := P) (ts := ts) (ty := o.type) (dCap := dCap) hu hinf hlenOf hfirst hle h10 h11 k2
  have hw := hs.hold.write (w' := w.setRow g (putC cur.toList off us).toArray) (b := .arr e sz n (putC xs off es)) h5 hg (h9 g hg) rfl rfl rfl (by simp [World.setRow])
    (fun k hk hne => setRow_other w g k _ hne) (fun hK => ⟨v, h5, h12 (fun fz h => setRow_heap w g cur _ T fz h) (fun _ h => h) hK, h9⟩)
  refine ⟨_, _, m, S, ?_, Le.refl m, fun _ h => h, hw.1, hw.2, by simp only [Rep]; unfold RepD; exact ⟨rfl, rfl⟩⟩
  simp [execOp, ho, resolve, invoke, builtin, hev, hrun, goInt]
/-- 'copy(d, s)', s a text. -/
theorem op_copyStr {t ts e id off dn n : Nat} {d s : Operand} {yd : A} {xs : List D} {str : ByteArray} (ho : o.op = .call ⟨.builtin .copy, #[d, s], #[t, ts]⟩) (he : sliceElem P t = some (e, 1)) (hd : opA st d = yd) (hrow : rowAt st.H yd = some (id, off, dn)) (hb : st.H.getD id .unborn = .arr e 1 n xs) (hx : opA st s = .d (.lit (.string str)))
    (hle : str.size ≤ dn) (hfit : off + str.size ≤ xs.length) : OpRun P o st (locsOf [d, s] ++ [.blk id]) (.d (.lit (.int .i64 str.size))) [(id, .arr e 1 n (putC xs off (bytesD str.data.toList)))] := by
  refine .value fun st' hag cx m S a w hs => ?_
  have hb' : st'.H.getD id .unborn = .arr e 1 n xs := (blk1 (by simp) hag).trans hb
  have hrd := op_rep hd (R := locsOf [d, s] ++ [.blk id]) (fun l h => by simp [locsOf, h]) hag hs
  have hev2 := op_lit hx (R := locsOf [d, s] ++ [.blk id]) (fun l h => by simp [locsOf, h]) hag hs
  have hok := hs.hold.ok id
  rw [hb'] at hok
  obtain ⟨v, h5, h6, h9⟩ := hok
  obtain ⟨hu, inf, hinf, hsz⟩ := sliceElem_spec he
  by_cases hpos : 0 < xs.length
  case neg =>
    have hx0 : xs = [] := List.eq_nil_of_length_eq_zero (by omega)
    subst hx0
    have hk0 : str.size = 0 := by rw [List.length_nil] at hfit; omega
    have hstr : str.data.toList = [] := List.eq_nil_of_length_eq_zero (by simpa using hk0)
    have hdv : ∃ p' n' c', a.eval d = .slice p' n' c' := by
      cases yd with
      | own id' =>
        simp only [rowAt] at hrow
        split at hrow
        · cases hrow
          simp only [Rep, h5] at hrd
          obtain ⟨pa, cap', r1, _⟩ := row_slice h6
          exact ⟨pa, _, cap', by rw [hrd.1]; exact r1⟩
        · cases hrow
      | sub id' off' n' =>
        simp only [rowAt] at hrow
        cases hrow
        simp only [Rep, h5] at hrd
        obtain ⟨g', c', _, he', _⟩ := hrd
        exact ⟨_, _, _, he'⟩
      | _ => cases hrow
    obtain ⟨p', n', c', hdv⟩ := hdv
    have hlenOf : (Builtin.lenOf (.string str)).run P w = .ok 0 w := by rw [← hk0]; rfl
    have hfirst : (Builtin.firstCells inf.size 0 (.string str)).run P w = .ok #[] w := by
      have := run_firstCells_string (P := P) w inf.size str
      rw [hk0] at this
      rw [this]
      have : strCells str = [] := by simp [strCells, hstr]
      rw [this]
    refine ⟨_, w, m, S, ?_, Le.refl m, fun _ h => h, Keeps.refl S w, hold_same hs.hold (by rw [hb']; simp [putC, hstr, bytesD]), by simp only [Rep]; unfold RepD; exact ⟨rfl, rfl⟩⟩
    simp [execOp, ho, resolve, invoke, builtin, hdv, hev2, run_copy0 (P := P) (ts := ts) (ty := o.type) hu hinf hlenOf hfirst, goInt, hk0]
  have key : ∃ g dCap, v.ownBlock = some g ∧ a.eval d = .slice (some ⟨g, off, none⟩) dn dCap := by
    obtain ⟨pa, cap', r1, r2, r3, r4, r5, r6⟩ := row_slice h6
    have hpa : ∃ q, pa = some q := by
      cases pa with
      | some q => exact ⟨q, rfl⟩
      | none =>
        obtain ⟨hn0, _⟩ := r4 rfl
        obtain ⟨cells, ⟨hl, _⟩, hr, _⟩ := h6
        rw [hn0, Nat.zero_mul] at hl
        have := hr.1
        omega
    obtain ⟨q, rfl⟩ := hpa
    obtain ⟨g, rfl, hg⟩ := r6 q rfl
    cases yd with
    | own id' =>
      simp only [rowAt] at hrow
      split at hrow
      · rename_i e' sz' n' xs' hbb
        cases hrow
        rw [hb] at hbb; cases hbb
        simp only [Rep, h5] at hrd
        exact ⟨g, cap', hg, by rw [hrd.1]; exact r1⟩
      · cases hrow
    | sub id' off' n' =>
      simp only [rowAt] at hrow
      cases hrow
      simp only [Rep, h5] at hrd
      obtain ⟨g', c', hg', he', _⟩ := hrd
      exact ⟨g', c', hg', he'⟩
    | _ => cases hrow
  obtain ⟨g, dCap, hg, hev⟩ := key
  have k1 : RepsD S w (bytesD str.data.toList) (strCells str) := ⟨by rw [strCells_length, bytesD_length]; rfl, fun j x u hx hu => by
    simp only [strCells, bytesD, List.getElem?_map] at hx hu
    cases hj : str.data.toList[j]? with
    | none => rw [hj] at hx; cases hx
    | some b => rw [hj] at hx hu; cases hx; cases hu; unfold byteD RepD; exact ⟨rfl, rfl⟩⟩
  have k2 : ones (strCells str) := strCells_oneCell str
  have hsl : (bytesD str.data.toList).length = str.size := by rw [bytesD_length]; rfl
  obtain ⟨cur, T, h10, h11, h12⟩ := rowOK_put h6 hg k1 k2 (by rw [hsl]; exact hfit)
  have hrun := run_copyN (P := P) (ts := ts) (ty := o.type) (dCap := dCap) (src := .string str) (k := str.size) hu hinf rfl (run_firstCells_string w inf.size str) hle h10 h11 k2
  have hw := hs.hold.write (w' := w.setRow g (putC cur.toList off (strCells str)).toArray) (b := .arr e 1 n (putC xs off (bytesD str.data.toList))) h5 hg (h9 g hg) rfl rfl rfl (by simp [World.setRow])
    (fun k hk hne => setRow_other w g k _ hne) (fun hK => ⟨v, h5, h12 (fun fz h => setRow_heap w g cur _ T fz h) (fun _ h => h) hK, h9⟩)
  refine ⟨_, _, m, S, ?_, Le.refl m, fun _ h => h, hw.1, hw.2, by simp only [Rep]; unfold RepD; exact ⟨rfl, rfl⟩⟩
  simp [execOp, ho, resolve, invoke, builtin, hev, hev2, hrun, goInt]

/-! ### strings, bytes -/
theorem op_str {t u e : TypeId} {x : Operand} {y : A} {ds : List D} {off n : Nat} {l : List UInt8} (ho : o.op = .convert t u x) (hs0 : P.underlying t = some (.slice e)) (he : P.underlying e = some (.int .u8)) (hd : P.underlying u = some .string) (hx : opA st x = y) (hy : sliceAt st.H y = some (ds, off, n))
    (hl : (ds.drop off).take n = bytesD l) (hn : l.length = n) : OpRun P o st (locOf x ++ locA y) (.d (.lit (.string ⟨l.toArray⟩))) [] := by
  refine .pure fun st' hag cx m S a w hs => ⟨.string ⟨l.toArray⟩, ?_, by simp only [Rep]; unfold RepD; exact ⟨rfl, rfl⟩⟩
  have hr := op_rep hx (R := locOf x ++ locA y) (fun l h => by simp [h]) hag hs
  rw [← sliceA_agree fun l h => hag l (by simp [h])] at hy
  obtain ⟨p, cap, hv, h1, h2, h3, h4⟩ := sliceAt_spec hs.hold hy hr
  have : (convert t u (a.eval x)).run P w = .ok (.string ⟨l.toArray⟩) w := by
    rw [hv]
    cases p with
    | none =>
      obtain ⟨h5, _⟩ := h3 rfl
      have : l = [] := List.eq_nil_of_length_eq_zero (by omega)
      subst this
      exact run_convert_bytes_nil w t e hs0 he n cap u hd
    | some q =>
      subst hn
      refine run_convert_bytes_back w t u e q cap l hs0 he hd fun j hj => ?_
      obtain ⟨us, k1, k2, k3⟩ := cells_news h4 hl
      have hju : us[j]? = some (us[j]'(by rw [k1.1, bytesD_length]; exact hj)) := List.getElem?_eq_getElem _
      have := k1.2 j (byteD l[j]) _ (by simp [bytesD, hj]) hju
      unfold byteD RepD at this
      rw [k3 q rfl j _ hju, this.1]
  simp only [execOp, ho]
  rw [Sem.run_bind, this]; rfl
theorem op_bytes {t u e : TypeId} {x : Operand} {s : ByteArray} (ho : o.op = .convert t u x) (hs0 : P.underlying t = some .string) (hd : P.underlying u = some (.slice e)) (he : P.underlying e = some (.int .u8)) (hx : opA st x = .d (.lit (.string s))) (hm : s.size ≤ maxLen) : OpRun P o st (locOf x) (.d (.sl s.size (bytesD s.data.toList))) [] := by
  refine .value fun st' hag cx m S a w hs => ?_
  have e1 := op_lit hx (fun _ h => h) hag hs
  have hcap := grownCap_ge w s.size 0 e
  have hcm := grownCap_le_maxLen w s.size 0 e hm
  generalize hc : grownCap w s.size 0 e = cap at hcap hcm
  have hce : Question.cut (.appendCap s.size 0 e) (w.tape w.drawn (.appendCap s.size 0 e)) = cap := hc
  let C : Array Value := (s.data.map fun b => Value.int .u8 b.toNat) ++ Array.replicate (cap - s.size) (.int .u8 0)
  let w' : World := (w.drew.alloc (.cells C e)).freeze ⟨w.heap.size, C.size, none⟩ 1
  have hw' : w'.heap[w.heap.size]? = some (.cells C e (C.size, C.size + 1)) := by
    have h0 : (w.drew.alloc (.cells C e)).heap[w.heap.size]? = some (.cells C e (0, 0)) := heap_alloc_new w.drew _
    simp only [w', World.freeze]
    rw [if_neg (by decide)]
    simp only [Array.getElem?_modify, if_true, h0]
    rfl
  have hsz : w'.heap.size = w.heap.size + 1 := by simp [w', World.freeze]
  have hrun : (convert t u (.string s)).run P w = .ok (.slice (some ⟨w.heap.size, 0, none⟩) s.size cap) w' := by
    have hsh : (w.drew.alloc (.cells C e)).shape? w.heap.size = some (e, C.size) := by
      have h0 : (w.drew.alloc (.cells C e)).heap[w.heap.size]? = some (.cells C e (0, 0)) := heap_alloc_new w.drew _
      unfold World.shape?; rw [h0]
    simp [convert, run_underlying hs0, run_underlying hd, run_underlying he, Conv.stringToBytes, Question.forced, newRow, markStringish, hce]
    simp [C] at hsh
    simp [hsh, w', C]
  obtain ⟨hK, hold⟩ := hs.hold.allocS (w' := w') rfl rfl rfl (by omega) (fun b hb => by
    have h0 := Below.heap_alloc w.drew (.cells C e) b hb
    simp only [w', World.freeze]
    have hne : w.heap.size ≠ b := by omega
    simp [Array.getElem?_modify, hne]
    exact h0)
  refine ⟨.slice (some ⟨w.heap.size, 0, none⟩) s.size cap, w', m, fun b => S b ∨ b = w.heap.size, ?_, Le.refl m, fun _ h => .inl h, hK, hold, ?_⟩
  · simp only [execOp, ho, e1]
    rw [Sem.run_bind, hrun]; rfl
  · simp only [Rep, RepD]
    refine ⟨_, cap, rfl, hcap, hcm, (fun h => by cases h), RepDs.of _ _ _ fun j c hj => ?_⟩
    rw [bytesD, List.getElem?_map] at hj
    cases hb : s.data.toList[j]? with
    | none => rw [hb] at hj; cases hj
    | some b =>
      rw [hb] at hj; cases hj
      refine ⟨_, .int .u8 b.toNat, rfl, ?_, .inr rfl, rfl, by unfold byteD RepD; exact ⟨rfl, rfl⟩⟩
      rw [addr_add, cell_at hw']
      have hjl : j < s.data.size := by have := (List.getElem?_eq_some_iff.1 hb).1; simpa using this
      have hb2 : s.data[j]? = some b := by rw [← Array.getElem?_toList]; exact hb
      simp only [C, Nat.zero_add, Array.getElem?_append, Array.size_map, hjl, if_true, Array.getElem?_map, hb2, Option.map_some]
theorem op_index_str {t : TypeId} {x ix : Operand} {s : ByteArray} {k : IntKind} {iv : Int} {i : Nat} {b : UInt8} (ho : o.op = .index t x ix) (hu : P.underlying t = some .string) (hx : opA st x = .d (.lit (.string s))) (hi : opA st ix = .d (.lit (.int k iv))) (hiv : iv = (i : Int)) (hb : s.data.toList[i]? = some b) :
    OpRun P o st (locsOf [x, ix]) (.d (.lit (.int .u8 b.toNat))) [] := by
  refine .pure fun st' hl cx m S a w hs => ⟨.int .u8 b.toNat, ?_, by simp only [Rep]; unfold RepD; exact ⟨rfl, rfl⟩⟩
  have e1 := op_lit hx (R := locsOf [x, ix]) (fun l h => by simp [locsOf, h]) hl hs
  have e2 := op_lit hi (R := locsOf [x, ix]) (fun l h => by simp [locsOf, h]) hl hs
  subst hiv
  have hs' : s[i]? = some b := by
    have h1 : i < s.data.toList.length := (List.getElem?_eq_some_iff.1 hb).1
    have h2 : i < s.size := by simpa using h1
    rw [getElem?_pos s i h2, ByteArray.getElem_eq_getElem_data]
    have := (List.getElem?_eq_some_iff.1 hb).2
    simpa using this
  simp [execOp, ho, Instr.index, e1, e2, asIntOf, run_underlying hu, hs']
end
end Go.Proofs.YtaaooafcijdbmaaDoor.K

namespace Go.Proofs.YtaaooafcijdbmaaDoor.K
open Go.RowKit Go.Lib

/-! ### forgetting, other names -/
def wkL (ids : List Nat) : List A → List A → Prop
  | [], [] => True
  | x :: xs, y :: ys => (x = .top ∨ x.ren ids = some y) ∧ wkL ids xs ys
  | _, _ => False
def wkB (ids : List Nat) : Blk → Blk → Prop
  | .box xs, .box ys => wkL ids xs ys
  | b, b' => b.ren ids = some b'
theorem wkL_reps {ids : List Nat} {m : Mp} {S : Nat → Prop} {w : World} : ∀ {xs ys : List A} {vs : List Value}, wkL ids xs ys → Reps m S w ys vs → Reps (via ids m) S w xs vs
  | [], [], vs, _, h => by simpa only [Reps] using h
  | x :: xs, y :: ys, vs, hw, h => by
    simp only [Reps] at h ⊢
    obtain ⟨v, r, rfl, h1, h2⟩ := h
    refine ⟨v, r, rfl, ?_, wkL_reps hw.2 h2⟩
    rcases hw.1 with rfl | he
    · simp only [Rep]
    · exact (Rep.via x y v he).2 h1
  | [], _ :: _, _, hw, _ => hw.elim
  | _ :: _, [], _, hw, _ => hw.elim
theorem wkB_ok {ids : List Nat} {m : Mp} {S : Nat → Prop} {w : World} {j k : Nat} {b b' : Blk} (hk : ids[j]? = some k) (hw : wkB ids b b') (h : BlkOK m S w k b') : BlkOK (via ids m) S w j b := by
  have gen : b.ren ids = some b' → BlkOK (via ids m) S w j b := fun hr => (BlkOK.via hk hr).2 h
  cases b with
  | box xs =>
    cases b' with
    | box ys =>
      obtain ⟨b, cells, T, h1, h2, h3, h4, h5⟩ := h
      exact ⟨b, cells, T, by simp [K.via, hk, h1], h2, wkL_reps hw h3, h4, h5⟩
    | _ => exact gen hw
  | _ => exact gen hw
/-- The state st' says no more than st: its block j is the block ids[j] there. -/
theorem Weak.to {st st' : St} (ids : List Nat) (hk : st'.k = st.k) (hn : ids.Nodup) (hl : ids.length = st'.H.length) (hpre : st.k ≤ ids.length ∧ ids.take st.k = List.range st.k)
    (hH : ∀ (j i : Nat), ids[j]? = some i → wkB ids (st'.H.getD j .unborn) (st.H.getD i .unborn)) (he : wkL ids st'.env st.env) : Weak st st' := by
  intro cx m S a w hs
  have h := hs.hold
  refine ⟨via ids m, S, ⟨⟨h.os, h.tape, h.output, h.size, h.old, h.s0, h.s, fun id p b hp hb => ?_, fun id id' p p' b hne hp hp' hb => ?_, fun j => ?_, fun id p hp => ?_⟩, wkL_reps he hs.env, hs.df, by rw [hk]; exact hs.pre⟩⟩
  · obtain ⟨k, _, hk⟩ := via_some hp; exact h.pl k p b hk hb
  · obtain ⟨k, h1, hk⟩ := via_some hp
    obtain ⟨k', h1', hk'⟩ := via_some hp'
    refine h.apart k k' p p' b (fun he => hne ?_) hk hk' hb
    subst he
    exact (List.getElem?_inj (List.getElem?_eq_some_iff.1 h1).1 hn).1 (h1.trans h1'.symm)
  · rcases Nat.lt_or_ge j ids.length with hj | hj
    · have hkj : ids[j]? = some ids[j] := List.getElem?_eq_getElem hj
      exact wkB_ok hkj (hH j _ hkj) (h.ok _)
    · rw [getD_none (by rw [← hl]; exact hj)]
      simp only [BlkOK, K.via, List.getElem?_eq_none hj, Option.bind_none]
  · have hid : id < st.k := by
      rcases Nat.lt_or_ge id st.k with h1 | h1
      · exact h1
      · rw [hs.pre id h1] at hp; cases hp
    have hki : ids[id]? = some id := by
      have : (ids.take st.k)[id]? = some id := by rw [hpre.2, List.getElem?_range hid]
      rwa [List.getElem?_take, if_pos hid] at this
    simp only [K.via, hki, Option.bind_some]
    exact h.le id p hp
/-- A nil slice is an own row of none. -/
def wkN (nid : Nat) : List A → List A → Prop
  | [], [] => True
  | x :: xs, y :: ys => (x = y ∨ (x = .own nid ∧ y = .d .nil)) ∧ wkN nid xs ys
  | _, _ => False
theorem wkN_reps {nid : Nat} {m m' : Mp} {S : Nat → Prop} {w : World} (hm : Le m m') (hn : m' nid = some (.arr (.slice none 0 0))) : ∀ {xs ys : List A} {vs : List Value}, wkN nid xs ys → Reps m S w ys vs → Reps m' S w xs vs
  | [], [], vs, _, h => by simpa only [Reps] using h
  | x :: xs, y :: ys, vs, hw, h => by
    simp only [Reps] at h ⊢
    obtain ⟨v, r, rfl, h1, h2⟩ := h
    refine ⟨v, r, rfl, ?_, wkN_reps hm hn hw.2 h2⟩
    rcases hw.1 with rfl | ⟨rfl, rfl⟩
    · exact Rep.mono hm (fun _ h => h) (Keeps.refl S w) _ _ h1
    · simp only [Rep, RepD] at h1
      subst h1
      simp only [Rep, hn]
      exact ⟨trivial, rfl⟩
  | [], _ :: _, _, hw, _ => hw.elim
  | _ :: _, [], _, hw, _ => hw.elim
theorem Weak.own {st st' : St} (nid e sz : Nat) (hnid : st.H.getD nid .unborn = .unborn) (hk : st'.k = st.k) (he : wkN nid st'.env st.env) (hH : st'.H.getD nid .unborn = .arr e sz 0 [])
    (ho : ∀ j, j ≠ nid → st'.H.getD j .unborn = st.H.getD j .unborn ∨ ∃ xs ys, st'.H.getD j .unborn = .box xs ∧ st.H.getD j .unborn = .box ys ∧ wkN nid xs ys) : Weak st st' := by
  intro cx m S a w hs
  have h := hs.hold
  have hn : m nid = none := by have := h.ok nid; rw [hnid] at this; exact this
  have hLe : Le m (updM m nid (.arr (.slice none 0 0))) := fun k q hq => by
    by_cases e1 : k = nid
    · subst e1; rw [hn] at hq; cases hq
    · left; simp only [updM, e1, if_false]; exact hq
  have hnew : updM m nid (.arr (.slice none 0 0)) nid = some (.arr (.slice none 0 0)) := by simp only [updM, if_true]
  have hne : ∀ j, j ≠ nid → updM m nid (.arr (.slice none 0 0)) j = m j := fun j hj => by simp only [updM, hj, if_false]
  have blkNil : ∀ {id p b}, updM m nid (.arr (.slice none 0 0)) id = some p → p.blk = some b → m id = some p := fun {id p b} hp hb => by
    by_cases e1 : id = nid
    · subst e1; rw [hnew] at hp; cases hp; simp [Pl.blk, Value.ownBlock] at hb
    · rw [hne id e1] at hp; exact hp
  refine ⟨_, S, ⟨⟨h.os, h.tape, h.output, h.size, h.old, h.s0, h.s, fun id p b hp hb => h.pl id p b (blkNil hp hb) hb, fun id id' p p' b hd hp hp' hb hb' => h.apart id id' p p' b hd (blkNil hp hb) (blkNil hp' hb') hb hb', fun j => ?_, h.le.trans hLe⟩,
    wkN_reps hLe hnew he hs.env, hs.df, by rw [hk]; exact hs.pre⟩⟩
  by_cases hj : j = nid
  · subst hj
    rw [hH]
    exact ⟨_, hnew, ⟨[], OwnsR.nil w e sz, ⟨rfl, fun i x v hx => by simp at hx⟩, fun v hv => by cases hv⟩, fun g hg => by simp [Value.ownBlock] at hg⟩
  · rcases ho j hj with h1 | ⟨xs, ys, h1, h2, h3⟩
    · rw [h1]
      exact (h.ok j).mono (hne j hj) hLe (fun _ h => h) (Keeps.refl S w) fun p g _ _ => ⟨rfl, fun h => h⟩
    · have hok := h.ok j
      rw [h2] at hok
      obtain ⟨b, cells, T, k1, k2, k3, k4, k5⟩ := hok
      rw [h1]
      exact ⟨b, cells, T, by rw [hne j hj]; exact k1, k2, wkN_reps hLe hnew h3 k3, k4, k5⟩
def Blk.view (H : List Blk) (vids : List Nat) : Blk → Blk
  | .box xs => .box (A.nns (A.views H vids xs))
  | b => b
def frzL (H : List Blk) (vids : List Nat) : List Blk → Nat → List Blk
  | [], _ => []
  | b :: l, k => (match inB vids k with | true => b.frz | false => b.view H vids) :: frzL H vids l (k + 1)
theorem frzL_get {H : List Blk} {vids : List Nat} : ∀ (l : List Blk) (k j : Nat), (frzL H vids l k).getD j .unborn = if (k + j) ∈ vids then (l.getD j .unborn).frz else (l.getD j .unborn).view H vids
  | [], k, j => by simp only [frzL, List.getD_nil]; split <;> rfl
  | b :: l, k, 0 => by
    simp only [frzL, List.getD_cons_zero, Nat.add_zero]
    cases h : inB vids k with
    | true => rw [if_pos (inB_iff.1 h)]
    | false => rw [if_neg (fun hm => by rw [inB_iff.2 hm] at h; cases h)]
  | b :: l, k, j + 1 => by
    simp only [frzL, List.getD_cons_succ]
    rw [frzL_get l (k + 1) j, show k + 1 + j = k + (j + 1) by omega]
/-- Own blocks are frozen: what names them, says what they are. -/
theorem Weak.freeze {st : St} (vids : List Nat) : Weak st ⟨A.nns (A.views st.H vids st.env), frzL st.H vids st.H 0, st.k⟩ := by
  intro cx m S a w hs
  have hf := hs.hold.freeze (vids := vids) (H' := putB st.H (vids.map fun id => (id, (st.H.getD id .unborn).frz))) fun k => by
    rw [getD_putB, lastB_frz]
    by_cases hk : k ∈ vids <;> simp [hk]
  have hle := fzm_le hs.hold vids
  refine ⟨fzm m st.H vids, SV' m S vids, ⟨⟨hf.os, hf.tape, hf.output, hf.size, hf.old, hf.s0, hf.s, hf.pl, hf.apart, fun j => ?_, hf.le⟩, Reps.mono hle (fun _ h => h) (Keeps.refl _ w) _ _ (Reps.nn _ _ (Reps.view hs.hold _ _ hs.env)), hs.df, hs.pre⟩⟩
  have hj := hf.ok j
  rw [getD_putB, lastB_frz] at hj
  simp only [] at hj ⊢
  rw [frzL_get, Nat.zero_add]
  by_cases hk : j ∈ vids
  · rw [if_pos hk] at hj ⊢; exact hj
  · rw [if_neg hk] at hj ⊢
    simp only [Option.getD_none] at hj
    cases hb : st.H.getD j .unborn with
    | box xs =>
      rw [hb] at hj
      obtain ⟨b, cells, T, k1, k2, k3, k4, k5⟩ := hj
      have hok := hs.hold.ok j
      rw [hb] at hok
      obtain ⟨b0, cells0, T0, j1, j2, j3, _⟩ := hok
      have hi : inB vids j = false := by
        cases hi : inB vids j with
        | false => rfl
        | true => exact absurd (inB_iff.1 hi) hk
      have e1 : m j = some (.box b) := by simpa only [fzm, hi] using k1
      rw [j1] at e1; cases e1
      rw [j2] at k2; cases k2
      exact ⟨b, cells, T, k1, j2, Reps.mono hle (fun _ h => h) (Keeps.refl _ w) _ _ (Reps.nn _ _ (Reps.view hs.hold _ _ j3)), k4, k5⟩
    | unborn => rw [hb] at hj; exact hj
    | gone => rw [hb] at hj; exact hj
    | arr e sz n xs => rw [hb] at hj; exact hj
    | fro e sz n xs => rw [hb] at hj; exact hj

/-! ### parts -/
def boundA (st : St) (dflt : Nat) : Option Operand → Nat → Prop
  | none, l => l = dflt
  | some y, l => ∃ k : IntKind, ∃ v : Int, opA st y = .d (.lit (.int k v)) ∧ v = l
def boundV (a : Act) (dflt : Nat) : Option Operand → Nat → Prop
  | none, l => l = dflt
  | some y, l => ∃ k, a.eval y = .int k l
section
variable {P : Program} {o : Oper} {st : St}
theorem op_slice_str {t : TypeId} {x : Operand} {lo hi : Option Operand} {s : ByteArray} {l h : Nat} (ho : o.op = .slice t x lo hi none) (hu : P.underlying t = some .string) (hx : opA st x = .d (.lit (.string s)))
    (hlo : boundA st 0 lo l) (hhi : boundA st s.size hi h) (h1 : l ≤ h) (h2 : h ≤ s.size) :
    OpRun P o st (locsOf (x :: (lo.toList ++ hi.toList))) (.d (.lit (.string (s.extract l h)))) [] := by
  refine .pure fun st' hl cx m S a w hs => ⟨.string (s.extract l h), ?_, by simp only [Rep]; unfold RepD; exact ⟨rfl, rfl⟩⟩
  have e1 := op_lit hx (R := locsOf (x :: (lo.toList ++ hi.toList))) (fun l h => by simp [locsOf, h]) hl hs
  have g1 : (0 : Int) ≤ l ∧ (l : Int) ≤ h := by omega
  have g2 : (0 : Int) ≤ h ∧ (h : Int) ≤ s.size := by omega
  cases lo with
  | none =>
    simp only [boundA, boundV] at hlo; subst hlo
    cases hi with
    | none => simp only [boundA, boundV] at hhi; subst hhi; simp [execOp, ho, Instr.sliceAt, Instr.slice, run_underlying hu, e1, Instr.sliceBounds]
    | some y =>
      obtain ⟨k, v, h3, rfl⟩ := hhi
      have e2 := op_lit h3 (R := locsOf (x :: ((none : Option Operand).toList ++ (some y).toList))) (fun l h => by simp [locsOf, h]) hl hs
      simp [execOp, ho, Instr.sliceAt, Instr.slice, run_underlying hu, e1, e2, Instr.sliceBounds, Instr.sliceBound, asIntOf, h2]
  | some z =>
    obtain ⟨k, v, h3, rfl⟩ := hlo
    have e3 := op_lit h3 (R := locsOf (x :: ((some z).toList ++ hi.toList))) (fun l h => by simp [locsOf, h]) hl hs
    cases hi with
    | none => simp only [boundA, boundV] at hhi; subst hhi; simp [execOp, ho, Instr.sliceAt, Instr.slice, run_underlying hu, e1, e3, Instr.sliceBounds, Instr.sliceBound, asIntOf, h1]
    | some y =>
      obtain ⟨k, v, h4, rfl⟩ := hhi
      have e2 := op_lit h4 (R := locsOf (x :: ((some z).toList ++ (some y).toList))) (fun l h => by simp [locsOf, h]) hl hs
      simp [execOp, ho, Instr.sliceAt, Instr.slice, run_underlying hu, e1, e2, e3, Instr.sliceBounds, Instr.sliceBound, asIntOf, h1, h2]
/-- A part of a slice. -/
def partA (l h sz : Nat) (ds : List D) (off : Nat) : A → A
  | .own id => .sub id (l * sz) (h - l)
  | .sub id o _ => .sub id (o + l * sz) (h - l)
  | _ => .d (.sl (h - l) ((ds.drop (off + l * sz)).take ((h - l) * sz)))
theorem run_slice {t e sz : Nat} {x : Operand} {lo hi : Option Operand} {a : Act} {w : World} {p : Option Addr} {n cap l h : Nat} (ho : o.op = .slice t x lo hi none) (he : sliceElem P t = some (e, sz)) (hx : a.eval x = .slice p n cap)
    (hlo : boundV a 0 lo l) (hhi : boundV a n hi h) (h1 : l ≤ h) (h2 : h ≤ cap) :
    (execOp a.eval o).run P w = .ok (.value (.slice (if cap = l then p else p.map (·.add (l * sz))) (h - l) (cap - l))) w := by
  obtain ⟨hu, inf, hinf, hsz⟩ := sliceElem_spec he
  cases lo with
  | none =>
    simp only [boundA, boundV] at hlo; subst hlo
    cases hi with
    | none => simp only [boundA, boundV] at hhi; subst hhi; simp [execOp, ho, Instr.sliceAt, Instr.slice, run_underlying hu, hx, Instr.sliceBounds, sizeOf, typeInfo, hinf, hsz]
    | some y =>
      obtain ⟨k, h3⟩ := hhi
      simp [execOp, ho, Instr.sliceAt, Instr.slice, run_underlying hu, hx, h3, Instr.sliceBounds, Instr.sliceBound, asIntOf, h2, sizeOf, typeInfo, hinf, hsz]
  | some z =>
    obtain ⟨k, h3⟩ := hlo
    cases hi with
    | none => simp only [boundA, boundV] at hhi; subst hhi; simp [execOp, ho, Instr.sliceAt, Instr.slice, run_underlying hu, hx, h3, Instr.sliceBounds, Instr.sliceBound, asIntOf, h1, sizeOf, typeInfo, hinf, hsz]
    | some y =>
      obtain ⟨k, h4⟩ := hhi
      simp [execOp, ho, Instr.sliceAt, Instr.slice, run_underlying hu, hx, h3, h4, Instr.sliceBounds, Instr.sliceBound, asIntOf, h1, h2, sizeOf, typeInfo, hinf, hsz]
theorem op_slice {t e sz : Nat} {x : Operand} {lo hi : Option Operand} {y : A} {ds : List D} {off n l h : Nat} (ho : o.op = .slice t x lo hi none) (he : sliceElem P t = some (e, sz)) (hx : opA st x = y) (hy : sliceAt st.H y = some (ds, off, n))
    (hlo : boundA st 0 lo l) (hhi : boundA st n hi h) (h1 : l ≤ h) (h2 : h ≤ n) (h3 : l < n ∨ l = 0)
    (hown : match y with | .own id => l * sz < ds.length | .sub _ _ _ => True | .d _ => off + h * sz ≤ ds.length | _ => False) :
    OpRun P o st (locsOf (x :: (lo.toList ++ hi.toList)) ++ locA y) (partA l h sz ds off y) [] := by
  refine .pure fun st' hag cx m S a w hs => ?_
  have hr := op_rep hx (R := locsOf (x :: (lo.toList ++ hi.toList)) ++ locA y) (fun l h => by simp [locsOf, h]) hag hs
  have hy0 := hy
  rw [← sliceA_agree fun l h => hag l (by simp [h])] at hy
  obtain ⟨p, cap, hv, k1, k2, k3, k4⟩ := sliceAt_spec hs.hold hy hr
  have hlo' : boundV a 0 lo l := by
    cases lo with
    | none => exact hlo
    | some z => obtain ⟨k, v, q1, rfl⟩ := hlo; exact ⟨k, op_lit q1 (R := locsOf (x :: ((some z).toList ++ hi.toList)) ++ locA y) (fun l h => by simp [locsOf, h]) hag hs⟩
  have hhi' : boundV a n hi h := by
    cases hi with
    | none => exact hhi
    | some z =>
      obtain ⟨k, v, q1, rfl⟩ := hhi
      refine ⟨k, op_lit q1 (R := locsOf (x :: (lo.toList ++ (some z).toList)) ++ locA y) (fun l h => ?_) hag hs⟩
      have : l ∈ locsOf (x :: (lo.toList ++ [z])) := locs_mem (by simp) l h
      simp only [Option.toList_some, List.mem_append]; exact .inl this
  refine ⟨_, run_slice ho he hv hlo' hhi' h1 (by omega), ?_⟩
  have hadd : ∀ g o, p = some ⟨g, o, none⟩ → (if cap = l then p else p.map (·.add (l * sz))) = some ⟨g, o + l * sz, none⟩ := fun g o hp => by
    subst hp
    split
    · rename_i hc
      have : l = 0 := by omega
      subst this; simp
    · simp [addr_add]
  cases y with
  | own id =>
    simp only [Rep, partA] at hr ⊢
    have hok := hs.hold.ok id
    simp only [sliceAt] at hy
    have fin : ∀ {e sz' n' ds'} {v' : Value}, m id = some (.arr v') → RowOK S w e sz' n' ds' v' → ds'.length = ds.length → (match m id with
        | none => False
        | some .gone => (Value.slice (if cap = l then p else p.map (·.add (l * sz))) (h - l) (cap - l)).oneCell' = true
        | some (.box _) => False
        | some (.arr v) => ∃ g cap', v.ownBlock = some g ∧ Value.slice (if cap = l then p else p.map (·.add (l * sz))) (h - l) (cap - l) = .slice (some ⟨g, l * sz, none⟩) (h - l) cap' ∧ h - l ≤ cap' ∧ cap' ≤ maxLen) := fun {e sz' n' ds'} {v'} h5 h6 hdl => by
      rw [h5] at hr ⊢
      simp only at hr ⊢
      obtain ⟨a', cap', r1, r2, r3, r4, r5, r6⟩ := row_slice h6
      rw [← hr.1, hv] at r1
      simp only [Value.slice.injEq] at r1
      obtain ⟨r7, r8, r9⟩ := r1
      cases p with
      | none =>
        exfalso
        obtain ⟨h7, _⟩ := k3 rfl
        obtain ⟨cells, ⟨hl, q⟩, hrr, _⟩ := h6
        rcases q with ⟨_, q⟩ | ⟨g, c, cur, q, _⟩
        · rw [q, Nat.zero_mul] at hl
          have := hrr.1; omega
        · rw [← hr.1, hv] at q; cases q
      | some q =>
        obtain ⟨g, hq, hg⟩ := r6 q r7.symm
        subst hq
        exact ⟨g, cap - l, hg, by rw [hadd g 0 rfl, Nat.zero_add], by omega, by omega⟩
    split at hy
    · rename_i e' sz' n' ds' hb
      cases hy
      rw [hb] at hok
      obtain ⟨v', h5, h6, _⟩ := hok
      exact fin h5 h6 rfl
    · rename_i e' sz' n' ds' hb
      cases hy
      rw [hb] at hok
      obtain ⟨v', h5, h6, _⟩ := hok
      exact fin h5 h6 rfl
    · cases hy
  | sub id o n' =>
    simp only [Rep, partA] at hr ⊢
    cases hm : m id with
    | none => rw [hm] at hr; exact hr.elim
    | some q =>
      rw [hm] at hr
      cases q with
      | gone => rfl
      | box b => exact hr.elim
      | arr v' =>
        obtain ⟨g, cap', hg, hev, _⟩ := hr
        rw [hv] at hev
        simp only [Value.slice.injEq] at hev
        exact ⟨g, cap - l, hg, by rw [hadd g o hev.1], by omega, by omega⟩
  | d x =>
    simp only [Rep, partA]
    unfold RepD
    refine ⟨_, _, rfl, by omega, by omega, fun hp => ?_, ?_⟩
    · cases p with
      | none => obtain ⟨h4, h5⟩ := k3 rfl; omega
      | some q => split at hp <;> cases hp
    · have hd : ∀ (q : Addr), p = some q → RepDs S w ds (some q) 0 → RepDs S w ((ds.drop (off + l * sz)).take ((h - l) * sz)) (if cap = l then p else p.map (·.add (l * sz))) 0 := fun q hq hrd => by
        cases x with
        | sl n' cs =>
          simp only [sliceAt] at hy0; cases hy0
          rw [Nat.zero_add]
          subst hq
          split
          · have : l = 0 := by omega
            subst this
            simpa using hrd.take (h * sz)
          · exact (hrd.drop _).take _
        | nil => simp only [sliceAt] at hy0; cases hy0; simp only [List.drop_nil, List.take_nil, RepDs]
        | lit v => cases hy0
        | ref cs => cases hy0
        | slc n cs => cases hy0
      cases x with
      | sl n' cs =>
        simp only [sliceAt] at hy0; cases hy0
        simp only [Rep, RepD] at hr
        obtain ⟨a', cap', q1, _, _, _, q2⟩ := hr
        rw [hv] at q1
        simp only [Value.slice.injEq] at q1
        cases p with
        | some q => exact hd q rfl (by rw [← q1.1] at q2; exact q2)
        | none =>
          obtain ⟨h4, _⟩ := k3 rfl
          have : (h - l) * sz = 0 := by rw [show h - l = 0 by omega, Nat.zero_mul]
          rw [this]; simp only [List.take_zero, RepDs]
      | nil => simp only [sliceAt] at hy0; cases hy0; simp only [List.drop_nil, List.take_nil, RepDs]
      | lit v => cases hy0
      | ref cs => cases hy0
      | slc n cs => cases hy0
  | _ => exact hown.elim
end
end Go.Proofs.YtaaooafcijdbmaaDoor.K

namespace Go.Proofs.YtaaooafcijdbmaaDoor.K
open Go.RowKit Go.Lib

section
variable {P : Program} {ops : Array Oper} {K : St → List Ef → Prop} {o : Oper} {l : List Oper} {st : St} {F : List Ef}
theorem Walk.nil (h : K st F) : Walk P ops K [] st F := h
theorem Walk.no (hg : gNo ops st o = true) (h : Walk P ops K l (st.put o.dst (.tup []) []) (F ++ [⟨o.dst, .tup [], [], gLoc ops o⟩])) : Walk P ops K (o :: l) st F := .inl ⟨hg, h⟩
theorem Walk.yes {R : List Loc} {val : A} {bl : List (Nat × Blk)} (hg : gYes ops st o = true) (hop : OpRun P o st R val bl) (h : Walk P ops K l (st.put o.dst val bl) (F ++ [⟨o.dst, val, bl, gLoc ops o ++ R⟩])) : Walk P ops K (o :: l) st F := .inr ⟨hg, R, val, bl, hop, h⟩
/-- The same state, written out. -/
theorem Walk.to_ {st' : St} (e : st = st') (h : Walk P ops K l st' F) : Walk P ops K l st F := e ▸ h
end
section
variable {P : Program} {K : Exit → St → Prop} {b c : Code} {st : St}
theorem Then.normal (h : AWP P K b st) : Then P K b .normal st := h
theorem Then.exit {id : Nat} (h : K (.exit id) st) : Then P K b (.exit id) st := h
theorem Then.ret (h : K .ret st) : Then P K b .ret st := h
theorem InBlock.normal {id : Nat} (h : K .normal st) : InBlock id K .normal st := h
theorem InBlock.ret {id : Nat} (h : K .ret st) : InBlock id K .ret st := h
theorem InBlock.same {id : Nat} (h : K .normal st) : InBlock id K (.exit id) st := by simp only [InBlock, Nat.beq_refl]; exact h
theorem InBlock.other {id id' : Nat} (hne : Nat.beq id' id = false) (h : K (.exit id') st) : InBlock id K (.exit id') st := by simp only [InBlock, hne]; exact h
def RoundK (P : Program) (K : Exit → St → Prop) (c : Code) (n : Nat) : Exit → St → Prop := fun e st' => match e with | .normal => Rounds P K c n st' | e => K e st'
theorem Rounds.succ {n : Nat} (h : AWP P (RoundK P K c n) c st) : Rounds P K c (n + 1) st := h
theorem RoundK.normal {n : Nat} (h : Rounds P K c n st) : RoundK P K c n .normal st := h
theorem RoundK.exit {n id : Nat} (h : K (.exit id) st) : RoundK P K c n (.exit id) st := h
theorem RoundK.ret {n : Nat} (h : K .ret st) : RoundK P K c n .ret st := h
theorem Rounds.weak {n : Nat} {st' : St} (hw : Weak st st') (h : Rounds P K c n st') : Rounds P K c n st := by
  cases n with
  | zero => exact h.elim
  | succ n => exact AWP.weak hw h
theorem Rounds.ind {α : Type} (S : α → St) (I : α → Prop) (μ : α → Nat) (step : ∀ (x : α) (n : Nat), I x → (∀ y, I y → μ y < μ x → Rounds P K c n (S y)) → AWP P (RoundK P K c n) c (S x)) : ∀ (n : Nat) (x : α), I x → μ x < n → Rounds P K c n (S x)
  | 0, x, _, h => by omega
  | n + 1, x, hI, h => Rounds.succ (step x n hI fun y hy hlt => Rounds.ind S I μ step n y hy (by omega))
/-- A loop, by what a state of it says. -/
theorem AWP.loopI {α : Type} (S : α → St) (I : α → Prop) (μ : α → Nat) (x : α) (hw : Weak st (S x)) (hI : I x)
    (step : ∀ (x : α) (n : Nat), I x → (∀ y, I y → μ y < μ x → Rounds P K c n (S y)) → AWP P (RoundK P K c n) c (S x)) : AWP P K (.loop c) st :=
  AWP.weak hw (AWP.loop (μ x + 1) (Rounds.ind S I μ step _ x hI (by omega)))
theorem AWP.to_ {st' : St} (e : st = st') (h : AWP P K c st') : AWP P K c st := e ▸ h
theorem AWP.if_ {c : Operand} {x y : Code} (bv : Bool) (hc : opA st c = .d (.lit (.bool bv))) (h : AWP P K (match bv with | true => x | false => y) st) : AWP P K (.cond c x y) st :=
  AWP.cond hc (fun e => by subst e; exact h) (fun e => by subst e; exact h)
end

/-! ### calls -/
def preOK (ids : List Nat) (H : List Blk) : List Nat → List Blk → Prop
  | [], [] => True
  | i :: is, b :: bs => b.ren ids = some (H.getD i .unborn) ∧ preOK ids H is bs
  | _, _ => False
theorem preOK_ren {ids : List Nat} {H : List Blk} : ∀ {is : List Nat} {bs : List Blk}, preOK ids H is bs → is.length = bs.length ∧ ∀ j k, is[j]? = some k → (bs.getD j .unborn).ren ids = some (H.getD k .unborn)
  | [], [], _ => ⟨rfl, fun j k h => by simp at h⟩
  | i :: is, b :: bs, h => by
    obtain ⟨h1, h2⟩ := h
    obtain ⟨h3, h4⟩ := preOK_ren h2
    refine ⟨by simp [h3], fun j k hj => ?_⟩
    cases j with
    | zero => simp only [List.getElem?_cons_zero, Option.some.injEq] at hj; subst hj; exact h1
    | succ j => exact h4 j k (by simpa using hj)
  | [], _ :: _, h => h.elim
  | _ :: _, [], h => h.elim
def renBs (ids : List Nat) : List Blk → Option (List Blk)
  | [] => some []
  | b :: bs => match b.ren ids, renBs ids bs with | some c, some cs => some (c :: cs) | _, _ => none
theorem renBs_spec {ids : List Nat} : ∀ {bs cs : List Blk}, renBs ids bs = some cs → cs.length = bs.length ∧ ∀ (j : Nat) (b : Blk), bs[j]? = some b → ∃ b', cs[j]? = some b' ∧ b.ren ids = some b'
  | [], cs, h => by simp only [renBs, Option.some.injEq] at h; subst h; exact ⟨rfl, fun j b h => by simp at h⟩
  | b :: bs, cs, h => by
    simp only [renBs] at h
    cases hb : b.ren ids with
    | none => rw [hb] at h; simp at h
    | some c =>
      cases hr : renBs ids bs with
      | none => rw [hb, hr] at h; simp at h
      | some ds =>
        rw [hb, hr] at h; simp only [Option.some.injEq] at h; subst h
        obtain ⟨h1, h2⟩ := renBs_spec hr
        refine ⟨by simp [h1], fun j x hj => ?_⟩
        cases j with
        | zero => simp only [List.getElem?_cons_zero, Option.some.injEq] at hj; subst hj; exact ⟨c, rfl, hb⟩
        | succ j => simpa using h2 j x (by simpa using hj)
def nodupB : List Nat → Bool
  | [] => true
  | x :: l => match inB l x with | true => false | false => nodupB l
theorem nodupB_spec : ∀ {l : List Nat}, nodupB l = true → l.Nodup
  | [], _ => List.nodup_nil
  | x :: l, h => by
    simp only [nodupB] at h
    cases hi : inB l x with
    | true => rw [hi] at h; cases h
    | false =>
      rw [hi] at h
      exact List.nodup_cons.2 ⟨(fun hm => by rw [inB_iff.2 hm] at hi; cases hi), nodupB_spec h⟩
def isUnborn : Blk → Bool
  | .unborn => true
  | _ => false
/-- What a call asks of the names, in one Bool. -/
def callB (H : List Blk) (post : List Blk) (pids nids vids : List Nat) : Bool :=
  nodupB (pids ++ nids) && Nat.beq (pids ++ nids).length post.length && post.all (·.notFro) && nids.all (fun i => isUnborn (H.getD i .unborn)) && vids.all (fun i => !inB (pids ++ nids) i)
section
variable {P : Program} {o : Oper} {st : St} {callee : Operand} {args : List Operand} {ats : Array TypeId} {f : FuncId} {first cap xs : List A} {pre : List Blk} {res : A} {post : List Blk} {val : A} {post' : List Blk}
theorem mkCallN (pids nids vids : List Nat) (con : GCall P f xs pre res post) (ho : o.op = .call ⟨.value callee, args.toArray, ats⟩) (hfn : opA st callee = .clo (.func f) first cap) (hin : ∀ args w, (callFunc f args).run P w = .ok (.enter f args) w)
    (hargs : ∃ zs, A.rens pids xs = some zs ∧ nnL zs (A.views st.H vids (first ++ args.map (opA st) ++ cap))) (hpre : preOK pids st.H pids pre) (hB : callB st.H post pids nids vids = true) (hpost : renBs (pids ++ nids) post = some post') (hres : res.ren (pids ++ nids) = some val) :
    CallOK P st o callee args f first cap xs pre res post pids nids vids val post' := by
  simp only [callB, Bool.and_eq_true] at hB
  obtain ⟨⟨⟨⟨h1, h2⟩, h3⟩, h4⟩, h5⟩ := hB
  obtain ⟨h6, h7⟩ := preOK_ren hpre
  obtain ⟨h8, h9⟩ := renBs_spec hpost
  refine ⟨⟨ats, ho⟩, hfn, hin, con, hargs, ⟨h6, h7⟩, nodupB_spec h1, ⟨Nat.eq_of_beq_eq_true h2, h9⟩, h8, fun b hb => List.all_eq_true.1 h3 b hb, fun id hid => ?_, fun id hid => ?_, hres⟩
  · have := List.all_eq_true.1 h4 id hid
    cases hb : st.H.getD id .unborn <;> rw [hb] at this <;> first | rfl | cases this
  · have := List.all_eq_true.1 h5 id hid
    intro hm
    rw [inB_iff.2 hm] at this; cases this
theorem mkCall (pids nids vids : List Nat) (con : GCall P f xs pre res post) (ho : o.op = .call ⟨.value callee, args.toArray, ats⟩) (hfn : opA st callee = .clo (.func f) first cap) (hin : ∀ args w, (callFunc f args).run P w = .ok (.enter f args) w)
    (hargs : A.rens pids xs = some (A.nns (A.views st.H vids (first ++ args.map (opA st) ++ cap)))) (hpre : preOK pids st.H pids pre) (hB : callB st.H post pids nids vids = true) (hpost : renBs (pids ++ nids) post = some post') (hres : res.ren (pids ++ nids) = some val) :
    CallOK P st o callee args f first cap xs pre res post pids nids vids val post' := mkCallN pids nids vids con ho hfn hin ⟨_, hargs, nnL_nns⟩ hpre hB hpost hres
theorem use_frozen (pids nids vids : List Nat) (con : GCall P f xs pre res post) (ho : o.op = .call ⟨.value callee, args.toArray, ats⟩) (hfn : opA st callee = .clo (.func f) first cap) (hin : ∀ args w, (callFunc f args).run P w = .ok (.enter f args) w)
    (hargs : A.rens pids xs = some (A.nns (A.views st.H vids (first ++ args.map (opA st) ++ cap)))) (hpre : preOK pids st.H pids pre) (hB : callB st.H post pids nids vids = true) (hpost : renBs (pids ++ nids) post = some post') (hres : res.ren (pids ++ nids) = some val) :
    OpRun P o st (callR callee args pids nids vids) val ((pids ++ nids).zip post' ++ vids.map fun id => (id, (st.H.getD id .unborn).frz)) := (mkCall pids nids vids con ho hfn hin hargs hpre hB hpost hres).frozen
end
/-- A contract whose new blocks are frozen when it comes back. -/
theorem GCall.cast {P : Program} {f : FuncId} {args args' : List A} {pre pre' : List Blk} {res res' : A} {post post' : List Blk} (h : GCall P f args pre res post) (h1 : args = args') (h2 : pre = pre') (h3 : res = res') (h4 : post = post') : GCall P f args' pre' res' post' := by
  subst h1; subst h2; subst h3; subst h4; exact h

/-! ### integers -/
section
variable {P : Program} {t : TypeId} {x y : Operand} {k k' : IntKind} {a b : Int} {w : World}
theorem hb_add : (do eqGuard .add t x y (.int k a) (.int k b); binOp .add t (.int k a) (.int k b) : Sem Value).run P w = .ok (.int k (k.wrap (a + b))) w := by simp [eqGuard, binOp, Op.intArith]
theorem hb_sub : (do eqGuard .sub t x y (.int k a) (.int k b); binOp .sub t (.int k a) (.int k b) : Sem Value).run P w = .ok (.int k (k.wrap (a - b))) w := by simp [eqGuard, binOp, Op.intArith]
theorem hb_mul : (do eqGuard .mul t x y (.int k a) (.int k b); binOp .mul t (.int k a) (.int k b) : Sem Value).run P w = .ok (.int k (k.wrap (a * b))) w := by simp [eqGuard, binOp, Op.intArith]
theorem hb_quo (hb : b ≠ 0) : (do eqGuard .quo t x y (.int k a) (.int k b); binOp .quo t (.int k a) (.int k b) : Sem Value).run P w = .ok (.int k (k.wrap (a.tdiv b))) w := by simp [eqGuard, binOp, Op.intDiv, hb]
theorem hb_shr {n : Nat} (hn : n ≤ k.bits) (hb : b = (n : Int)) : (do eqGuard .shr t x y (.int k a) (.int k' b); binOp .shr t (.int k a) (.int k' b) : Sem Value).run P w = .ok (.int k (a.fdiv (2 ^ n))) w := by
  subst hb; have h0 : ¬ ((n : Int) < 0) := by omega
  simp [eqGuard, binOp, Op.shift, Nat.min_eq_left hn, h0]
theorem hb_shl {n : Nat} (hn : n ≤ k.bits) (hb : b = (n : Int)) : (do eqGuard .shl t x y (.int k a) (.int k' b); binOp .shl t (.int k a) (.int k' b) : Sem Value).run P w = .ok (.int k (k.wrap (a * 2 ^ n))) w := by
  subst hb; have h0 : ¬ ((n : Int) < 0) := by omega
  simp [eqGuard, binOp, Op.shift, Nat.min_eq_left hn, h0]
theorem hb_and : (do eqGuard .and t x y (.int k a) (.int k b); binOp .and t (.int k a) (.int k b) : Sem Value).run P w = .ok (.int k (k.wrap ((BitVec.ofInt k.bits a &&& BitVec.ofInt k.bits b).toNat))) w := by simp [eqGuard, binOp, Op.intBits]
theorem hb_or : (do eqGuard .or t x y (.int k a) (.int k b); binOp .or t (.int k a) (.int k b) : Sem Value).run P w = .ok (.int k (k.wrap ((BitVec.ofInt k.bits a ||| BitVec.ofInt k.bits b).toNat))) w := by simp [eqGuard, binOp, Op.intBits]
theorem hb_xor : (do eqGuard .xor t x y (.int k a) (.int k b); binOp .xor t (.int k a) (.int k b) : Sem Value).run P w = .ok (.int k (k.wrap ((BitVec.ofInt k.bits a ^^^ BitVec.ofInt k.bits b).toNat))) w := by simp [eqGuard, binOp, Op.intBits]
theorem hb_lss : (do eqGuard .lss t x y (.int k a) (.int k b); binOp .lss t (.int k a) (.int k b) : Sem Value).run P w = .ok (.bool (decide (a < b))) w := by simp [eqGuard, binOp, Op.intCmp]
theorem hb_leq : (do eqGuard .leq t x y (.int k a) (.int k b); binOp .leq t (.int k a) (.int k b) : Sem Value).run P w = .ok (.bool (decide (a ≤ b))) w := by simp [eqGuard, binOp, Op.intCmp]
theorem hb_gtr : (do eqGuard .gtr t x y (.int k a) (.int k b); binOp .gtr t (.int k a) (.int k b) : Sem Value).run P w = .ok (.bool (decide (b < a))) w := by simp [eqGuard, binOp, Op.intCmp]
theorem hb_geq : (do eqGuard .geq t x y (.int k a) (.int k b); binOp .geq t (.int k a) (.int k b) : Sem Value).run P w = .ok (.bool (decide (b ≤ a))) w := by simp [eqGuard, binOp, Op.intCmp]
theorem hb_eql : (do eqGuard .eql t x y (.int k a) (.int k b); binOp .eql t (.int k a) (.int k b) : Sem Value).run P w = .ok (.bool (decide (a = b))) w := by
  simp [eqGuard, binOp, Op.intCmp]; exact Bool.eq_iff_iff.2 (by simp)
theorem hb_neq : (do eqGuard .neq t x y (.int k a) (.int k b); binOp .neq t (.int k a) (.int k b) : Sem Value).run P w = .ok (.bool (decide (a ≠ b))) w := by
  simp [eqGuard, binOp, Op.intCmp]; exact Bool.eq_iff_iff.2 (by simp)
variable {s u : ByteArray}
theorem toList_inj {s u : ByteArray} : s.toList = u.toList ↔ s = u := by
  constructor
  · intro h
    rw [ByteArray.toList_eq, ByteArray.toList_eq] at h
    cases s; cases u; simp at h; simp [h]
  · intro h; rw [h]
theorem hb_seql : (do eqGuard .eql t x y (.string s) (.string u); binOp .eql t (.string s) (.string u) : Sem Value).run P w = .ok (.bool (decide (s = u))) w := by
  simp [eqGuard, binOp, Op.stringOp]; exact Bool.eq_iff_iff.2 (by simp [toList_inj])
theorem hb_sneq : (do eqGuard .neq t x y (.string s) (.string u); binOp .neq t (.string s) (.string u) : Sem Value).run P w = .ok (.bool (decide (s ≠ u))) w := by
  simp [eqGuard, binOp, Op.stringOp]; exact Bool.eq_iff_iff.2 (by simp [toList_inj])
variable {p q : Bool}
theorem hu_not : (Op.unary .not (.bool p)).run P w = .ok (.bool !p) w := rfl
theorem hu_neg : (Op.unary .neg (.int k a)).run P w = .ok (.int k (k.wrap (0 - a))) w := rfl
end
theorem lit_T {p : Prop} [Decidable p] (h : p) : A.d (.lit (.bool (decide p))) = .d (.lit (.bool true)) := by simp [h]
theorem lit_F {p : Prop} [Decidable p] (h : ¬ p) : A.d (.lit (.bool (decide p))) = .d (.lit (.bool false)) := by simp [h]
theorem lit_int {k : IntKind} {a b : Int} (h : a = b) : A.d (.lit (.int k a)) = .d (.lit (.int k b)) := by rw [h]
theorem lit_i64 {x y : Int} (h : x = y) (h1 : -9223372036854775808 ≤ y) (h2 : y ≤ 9223372036854775807) : A.d (.lit (.int .i64 (IntKind.i64.wrap x))) = .d (.lit (.int .i64 y)) := by
  subst h; rw [IntWalk.i64_in _ ⟨h1, h2⟩]
theorem ren_int {ids : List Nat} {k : IntKind} {a b : Int} (h : a = b) : (A.d (.lit (.int k a))).ren ids = some (.d (.lit (.int k b))) := by rw [h]; rfl
theorem ren_eq {ids : List Nat} {x y : D} (h : x = y) : (A.d x).ren ids = some (.d y) := by rw [h]; rfl
end Go.Proofs.YtaaooafcijdbmaaDoor.K

namespace Go.Proofs.YtaaooafcijdbmaaDoor.K
open Go.RowKit Go.Lib

/-- The cells of a list of things, each of so many cells. -/
def flatD {α : Type} (enc : α → List D) (l : List α) : List D := l.flatMap enc
section
variable {α : Type} {enc : α → List D} {sz : Nat}
@[simp] theorem flatD_nil : flatD enc [] = [] := rfl
theorem flatD_cons (x : α) (l : List α) : flatD enc (x :: l) = enc x ++ flatD enc l := rfl
theorem flatD_append (l r : List α) : flatD enc (l ++ r) = flatD enc l ++ flatD enc r := by simp [flatD]
theorem flatD_length (h : ∀ a, (enc a).length = sz) : ∀ l : List α, (flatD enc l).length = l.length * sz
  | [] => by simp
  | x :: l => by rw [flatD_cons, List.length_append, h, flatD_length h l, List.length_cons, Nat.add_mul]; omega
theorem flat_drop (h : ∀ a, (enc a).length = sz) : ∀ {l : List α} {i : Nat} {x : α}, l[i]? = some x → (flatD enc l).drop (i * sz) = enc x ++ flatD enc (l.drop (i + 1))
  | [], i, x, hx => by simp at hx
  | y :: l, 0, x, hx => by
    simp only [List.getElem?_cons_zero, Option.some.injEq] at hx
    subst hx
    simp [flatD_cons]
  | y :: l, i + 1, x, hx => by
    rw [flatD_cons, Nat.add_mul, Nat.one_mul, List.drop_append]
    have e1 : (enc y).drop (i * sz + sz) = [] := List.drop_of_length_le (by rw [h]; omega)
    rw [e1, List.nil_append, h, Nat.add_sub_cancel]
    exact flat_drop h (by simpa using hx)
variable {l : List α} {i : Nat} {x : α} {k : Nat}
theorem flat_ref_at (h : ∀ a, (enc a).length = sz) (hx : l[i]? = some x) {z : D} (hz : (enc x)[0]? = some z) : ((List.drop (i * sz) (flatD enc l)).map A.d)[0]? = some (.d z) := by
  have hl : 0 < (enc x).length := (List.getElem?_eq_some_iff.1 hz).1
  rw [flat_drop h hx, List.getElem?_map, List.getElem?_append_left hl, hz]; rfl
theorem flat_refk_at (h : ∀ a, (enc a).length = sz) (hx : l[i]? = some x) {z : D} (hz : (enc x)[k]? = some z) : ((List.drop k (List.drop (i * sz) (flatD enc l))).map A.d)[0]? = some (.d z) := by
  have hl : k < (enc x).length := (List.getElem?_eq_some_iff.1 hz).1
  rw [flat_drop h hx, List.getElem?_map, List.getElem?_drop]
  simp only [Nat.add_zero]
  rw [List.getElem?_append_left hl, hz]; rfl
theorem flat_ref_le (h : ∀ a, (enc a).length = sz) (hx : l[i]? = some x) {zs : List A} (hz : zs.length ≤ sz) : 0 + zs.length ≤ ((List.drop (i * sz) (flatD enc l)).map A.d).length := by
  rw [flat_drop h hx, List.length_map, List.length_append, h]; omega
theorem flat_ref (h : ∀ a, (enc a).length = sz) (hx : l[i]? = some x) {zs : List A} (hz : ((enc x).take zs.length).map A.d = zs) : ((((List.drop (i * sz) (flatD enc l)).map A.d).drop 0).take zs.length) = zs := by
  have hl : zs.length ≤ (enc x).length := by
    have := congrArg List.length hz
    simp at this; omega
  rw [flat_drop h hx, List.drop_zero, ← List.map_take, List.take_append_of_le_length hl]; exact hz
theorem flat_refk_le (h : ∀ a, (enc a).length = sz) (hx : l[i]? = some x) {zs : List A} (hz : k + zs.length ≤ sz) : 0 + zs.length ≤ ((List.drop k (List.drop (i * sz) (flatD enc l))).map A.d).length := by
  rw [flat_drop h hx, List.length_map, List.length_drop, List.length_append, h]; omega
theorem flat_refk (h : ∀ a, (enc a).length = sz) (hx : l[i]? = some x) {zs : List A} (hz : (((enc x).drop k).take zs.length).map A.d = zs) : ((((List.drop k (List.drop (i * sz) (flatD enc l))).map A.d).drop 0).take zs.length) = zs := by
  by_cases h0 : zs = []
  · subst h0; simp
  · have hl : zs.length ≤ ((enc x).drop k).length := by
      have := congrArg List.length hz
      simp at this ⊢; omega
    have hk : k ≤ (enc x).length := by
      have := List.length_pos_iff.2 h0
      simp at hl; omega
    rw [flat_drop h hx, List.drop_zero, ← List.map_take, List.drop_append_of_le_length hk, List.take_append_of_le_length hl]; exact hz
theorem flat_row_at (h : ∀ a, (enc a).length = sz) (hx : l[i]? = some x) {z : D} (hz : (enc x)[0]? = some z) : ((flatD enc l).map A.d)[i * sz]? = some (.d z) := by
  have := flat_ref_at h hx hz
  rw [List.getElem?_map, List.getElem?_drop, Nat.add_zero] at this
  rw [List.getElem?_map]; exact this
theorem flat_row_le (h : ∀ a, (enc a).length = sz) (hx : l[i]? = some x) {zs : List A} (hz : zs.length ≤ sz) : i * sz + zs.length ≤ ((flatD enc l).map A.d).length := by
  have hi := (List.getElem?_eq_some_iff.1 hx).1
  rw [List.length_map, flatD_length h]
  have := Nat.mul_le_mul_right sz (show i + 1 ≤ l.length by omega)
  rw [Nat.add_mul] at this; omega
theorem flat_row (h : ∀ a, (enc a).length = sz) (hx : l[i]? = some x) {zs : List A} (hz : ((enc x).take zs.length).map A.d = zs) : ((((flatD enc l).map A.d).drop (i * sz)).take zs.length) = zs := by
  have := flat_ref h hx hz
  rw [List.drop_zero, List.map_drop] at this
  exact this
end
theorem byt_set {l : List UInt8} {i : Nat} {b : UInt8} : putC (bytesD l) (i * 1) [byteD b] = bytesD (l.set i b) ∨ l.length ≤ i := by
  rcases Nat.lt_or_ge i l.length with h | h
  · left
    simp only [putC, bytesD, Nat.mul_one, List.length_singleton, ← List.map_take, ← List.map_drop]
    rw [List.set_eq_take_append_cons_drop, if_pos h]
    simp
  · exact .inr h

/-! ### the ends -/
section
variable {P : Program} {rs : List ResultVar} {k : Nat} {res : A} {post : List Blk} {st : St}
theorem ret_any (ids : List Nat) (xs : List A) (h1 : resList P st rs = some xs) (h2 : res.ren ids = some (one xs).nn) (h3 : preOK ids st.H ids post) (h4 : nodupB ids = true) (h5 : k ≤ ids.length ∧ ids.take k = List.range k) : RetK P rs k res post .ret st ∧ RetK P rs k res post .normal st := by
  obtain ⟨h6, h7⟩ := preOK_ren h3
  have : ∃ (ids : List Nat) (xs : List A), resList P st rs = some xs ∧ res.ren ids = some (one xs).nn ∧ renH ids post st.H ∧ ids.Nodup ∧ k ≤ ids.length ∧ ids.take k = List.range k :=
    ⟨ids, xs, h1, h2, ⟨h6, h7⟩, nodupB_spec h4, h5.1, h5.2⟩
  exact ⟨this, this⟩
theorem ret_intro (ids : List Nat) (xs : List A) (h1 : resList P st rs = some xs) (h2 : res.ren ids = some (one xs).nn) (h3 : preOK ids st.H ids post) (h4 : nodupB ids = true) (h5 : k ≤ ids.length ∧ ids.take k = List.range k) : RetK P rs k res post .ret st := (ret_any ids xs h1 h2 h3 h4 h5).1
theorem ret_introN (ids : List Nat) (xs : List A) (h1 : resList P st rs = some xs) (h2 : res.ren ids = some (one xs).nn) (h3 : preOK ids st.H ids post) (h4 : nodupB ids = true) (h5 : k ≤ ids.length ∧ ids.take k = List.range k) : RetK P rs k res post .normal st := (ret_any ids xs h1 h2 h3 h4 h5).2
def wkBs (ids : List Nat) (H : List Blk) : List Nat → List Blk → Prop
  | [], [] => True
  | i :: is, b :: bs => wkB ids b (H.getD i .unborn) ∧ wkBs ids H is bs
  | _, _ => False
theorem wkBs_spec {ids : List Nat} {H : List Blk} : ∀ {is : List Nat} {bs : List Blk}, wkBs ids H is bs → is.length = bs.length ∧ ∀ j i, is[j]? = some i → wkB ids (bs.getD j .unborn) (H.getD i .unborn)
  | [], [], _ => ⟨rfl, fun j i h => by simp at h⟩
  | i :: is, b :: bs, h => by
    obtain ⟨h1, h2⟩ := h
    obtain ⟨h3, h4⟩ := wkBs_spec h2
    refine ⟨by simp [h3], fun j i hj => ?_⟩
    cases j with
    | zero => simp only [List.getElem?_cons_zero, Option.some.injEq] at hj; subst hj; exact h1
    | succ j => exact h4 j i (by simpa using hj)
  | [], _ :: _, h => h.elim
  | _ :: _, [], h => h.elim
theorem Weak.to' {st' : St} (ids : List Nat) (hk : st'.k = st.k) (hn : nodupB ids = true) (hl : ids.length = st'.H.length) (hpre : st.k ≤ ids.length ∧ ids.take st.k = List.range st.k)
    (hH : wkBs ids st.H ids st'.H) (he : wkL ids st'.env st.env) : Weak st st' := Weak.to ids hk (nodupB_spec hn) hl hpre (wkBs_spec hH).2 he
theorem ren_arr {ids : List Nat} {e sz n n' : Nat} {xs ys : List D} (h1 : n = n') (h2 : xs = ys) : wkB ids (.arr e sz n xs) (.arr e sz n' ys) := by subst h1; subst h2; rfl
end
section
variable {P : Program} {o : Oper} {st : St}
/-- A part of a struct, or of an array, by its cells. -/
theorem run_part {t : TypeId} {xs : List A} {off : Nat} {x : A} (h : loadA P t xs off = some x) {m : Mp} {S : Nat → Prop} {w : World} {cs : Array Value} (hr : Reps m S w xs cs.toList) : ∃ v, (part t cs off).run P w = .ok v w ∧ Rep m S w x v := by
  have hl := hr.length
  have aggr : ∀ (i : TypeInfo), P.info? t = some i → (match Nat.ble (off + i.size) xs.length with | true => some (A.agg ((xs.drop off).take i.size)) | false => none) = some x → Rep m S w x (.agg (cs.extract off (off + i.size))) := fun i hi hx => by
    cases hb : Nat.ble (off + i.size) xs.length with
    | false => rw [hb] at hx; cases hx
    | true =>
      rw [hb] at hx; simp only [Option.some.injEq] at hx; subst hx
      simp only [Rep]
      refine ⟨_, rfl, ?_⟩
      have : (cs.extract off (off + i.size)).toList = (cs.toList.drop off).take i.size := by simp [List.extract_eq_take_drop]
      rw [this]; exact (hr.drop off).take _
  unfold loadA at h
  cases hu : P.underlying t with
  | none => rw [hu] at h; cases h
  | some d =>
    rw [hu] at h
    cases d with
    | struct fs =>
      simp only at h
      cases hi : P.info? t with
      | none => rw [hi] at h; cases h
      | some i => rw [hi] at h; exact ⟨_, by simp [part, isAgg, underlying, hu, sizeOf, typeInfo, hi], aggr i hi h⟩
    | array n e =>
      simp only at h
      cases hi : P.info? t with
      | none => rw [hi] at h; cases h
      | some i => rw [hi] at h; exact ⟨_, by simp [part, isAgg, underlying, hu, sizeOf, typeInfo, hi], aggr i hi h⟩
    | _ =>
      simp only at h
      obtain ⟨v, h1, h2⟩ := hr.at off x h
      have : cs[off]? = some v := by rw [← Array.getElem?_toList]; exact h1
      exact ⟨v, by simp [part, isAgg, underlying, hu, this], h2⟩
theorem op_index_arr {t e n : Nat} {x ix : Operand} {xs : List A} {z : A} {k : IntKind} {iv : Int} {i sz : Nat} (ho : o.op = .index t x ix) (hu : P.underlying t = some (.array n e)) (hsz : sizeT P e = some sz) (hx : opA st x = .agg xs) (hi : opA st ix = .d (.lit (.int k iv))) (hiv : iv = (i : Int)) (hin : i < n) (hl : loadA P e xs (i * sz) = some z) :
    OpRun P o st (locsOf [x, ix]) z [] := by
  refine .pure fun st' hag cx m S a w hs => ?_
  have hr := op_rep hx (R := locsOf [x, ix]) (fun l h => by simp [locsOf, h]) hag hs
  have hix := op_lit hi (R := locsOf [x, ix]) (fun l h => by simp [locsOf, h]) hag hs
  simp only [Rep] at hr
  obtain ⟨vs, h1, h2⟩ := hr
  obtain ⟨v, h3, h4⟩ := run_part hl h2
  obtain ⟨inf, hinf, hs1⟩ := sizeT_spec hsz
  subst hiv; subst hs1
  exact ⟨v, by simp [execOp, ho, Instr.index, run_underlying hu, asIntOf, hix, h1, hin, sizeOf, typeInfo, hinf, h3], h4⟩
end
section
variable {P : Program} {o : Oper} {st : St}
/-- 's == nil'. -/
theorem op_eqnil {t u e : TypeId} {x y : Operand} {ya : A} {ds : List D} {off n : Nat} (ho : o.op = .binOp .eql t x y u) (hu : P.underlying t = some (.slice e)) (hx : opA st x = ya) (hs0 : sliceAt st.H ya = some (ds, off, n)) (hy : opA st y = .d .nil) : OpRun P o st (locsOf [x, y] ++ locA ya) (.ab (n = 0)) [] := by
  refine .pure fun st' hag cx m S a w hs => ?_
  have hr := op_rep hx (R := locsOf [x, y] ++ locA ya) (fun l h => by simp [locsOf, h]) hag hs
  have h2 := op_rep hy (R := locsOf [x, y] ++ locA ya) (fun l h => by simp [locsOf, h]) hag hs
  rw [← sliceA_agree fun l h => hag l (by simp [h])] at hs0
  obtain ⟨p, cap, hv, _, _, h3, _⟩ := sliceAt_spec hs.hold hs0 hr
  simp only [Rep, RepD] at h2
  refine ⟨.bool p.isNone, ?_, by simp only [Rep]; exact ⟨_, rfl, fun h => by cases p with | none => exact (h3 rfl).1 | some q => cases h⟩⟩
  have hq : ∀ w, (Op.equal t (.slice p n cap) (.slice none 0 0)).run P w = .ok p.isNone w := fun w => by
    unfold Op.equal
    rw [show Op.maxDepth = 9999 + 1 from rfl, Op.equalIn]
    cases p <;> simp [run_underlying hu]
  simp only [execOp, ho, hv, h2, eqGuard, binOp, Sem.run_bind, hq, Result.andThen_ok]
  rfl
end
theorem getD_snoc {H H' : List Blk} {b : Blk} {j : Nat} (e : H' = H ++ [b]) (hj : j ≠ H.length) : H'.getD j .unborn = H.getD j .unborn := by
  subst e
  rw [List.getD_eq_getElem?_getD, List.getD_eq_getElem?_getD, List.getElem?_append]
  split
  · rfl
  · rename_i h
    rw [List.getElem?_eq_none (by simp; omega), List.getElem?_eq_none (by omega)]
theorem ownH_set {H H' : List Blk} {i : Nat} {xs ys : List A} {b : Blk} (e : H' = H.set i (.box xs) ++ [b]) (hb : H.getD i .unborn = .box ys) (hi : i < H.length) (hw : wkN H.length xs ys) :
    ∀ j, j ≠ H.length → H'.getD j .unborn = H.getD j .unborn ∨ ∃ xs ys, H'.getD j .unborn = .box xs ∧ H.getD j .unborn = .box ys ∧ wkN H.length xs ys := by
  intro j hj
  have h1 := getD_snoc (H := H.set i (.box xs)) (b := b) (j := j) e (by simpa using hj)
  by_cases hji : j = i
  · subst hji
    refine .inr ⟨xs, ys, ?_, hb, hw⟩
    rw [h1, List.getD_eq_getElem?_getD, List.getElem?_set]; simp [hi]
  · left
    rw [h1, List.getD_eq_getElem?_getD, List.getD_eq_getElem?_getD, List.getElem?_set, if_neg (by omega)]
theorem flat_all {α : Type} {enc : α → List D} {sz : Nat} (h : ∀ a, (enc a).length = sz) {l : List α} : ((flatD enc l).drop 0).take (l.length * sz) = flatD enc l := by
  rw [List.drop_zero, List.take_of_length_le (by rw [flatD_length h]; exact Nat.le_refl _)]
theorem byt_all {l : List UInt8} : ((bytesD l).drop 0).take (l.length * 1) = bytesD l := by
  rw [List.drop_zero, List.take_of_length_le (by simp)]
theorem byt_all' {l : List UInt8} : ((bytesD l).drop 0).take l.length = bytesD l := by
  rw [List.drop_zero, List.take_of_length_le (by simp)]
theorem byt_len {l : List UInt8} : (bytesD l).length = l.length * 1 := by simp
theorem bl_app {i j e sz n n' : Nat} {xs ys : List D} (h1 : n = n') (h2 : xs = ys) : [(i, Blk.gone), (j, Blk.arr e sz n xs)] = [(i, Blk.gone), (j, Blk.arr e sz n' ys)] := by rw [h1, h2]
theorem bl_one {j e sz n n' : Nat} {xs ys : List D} (h1 : n = n') (h2 : xs = ys) : [(j, Blk.arr e sz n xs)] = [(j, Blk.arr e sz n' ys)] := by rw [h1, h2]
theorem byt_fit {l : List UInt8} {i : Nat} (hi : i < l.length) {x : D} : i * 1 + [x].length ≤ (bytesD l).length := by simp; omega
theorem byt_set' {l : List UInt8} {i : Nat} {b : UInt8} (hi : i < l.length) : putC (bytesD l) (i * 1) [byteD b] = bytesD (l.set i b) := byt_set.resolve_right (by omega)
theorem flat_take {α : Type} {enc : α → List D} {sz : Nat} (h : ∀ a, (enc a).length = sz) : ∀ {l : List α} {k : Nat}, (flatD enc l).take (k * sz) = flatD enc (l.take k)
  | [], k => by simp
  | x :: l, 0 => by simp
  | x :: l, k + 1 => by
    rw [flatD_cons, List.take_succ_cons, flatD_cons, Nat.add_mul, Nat.one_mul, List.take_append, h x, Nat.add_sub_cancel, flat_take h, List.take_of_length_le (by rw [h]; omega)]
theorem flat_dropL {α : Type} {enc : α → List D} {sz : Nat} (h : ∀ a, (enc a).length = sz) : ∀ {l : List α} {k : Nat}, (flatD enc l).drop (k * sz) = flatD enc (l.drop k)
  | [], k => by simp
  | x :: l, 0 => by simp
  | x :: l, k + 1 => by
    rw [flatD_cons, List.drop_succ_cons, Nat.add_mul, Nat.one_mul, List.drop_append, h x, Nat.add_sub_cancel, flat_dropL h, List.drop_of_length_le (by rw [h]; omega), List.nil_append]
section
variable {P : Program} {o : Oper} {st : St}
end
theorem plain_triv {x : A} (h : x.Plain) : x.Plain ∧ ∀ b ∈ ([] : List Blk), b.Plain := ⟨h, fun b hb => by cases hb⟩
end Go.Proofs.YtaaooafcijdbmaaDoor.K

namespace Go.Proofs.YtaaooafcijdbmaaDoor.K
open Go.RowKit Go.Lib

theorem wrap_u64 (n : Int) : IntKind.u64.wrap n = n % 18446744073709551616 := by simp [IntKind.wrap, IntKind.signed, IntKind.bits]
theorem wrap_u8 (n : Int) : IntKind.u8.wrap n = n % 256 := by simp [IntKind.wrap, IntKind.signed, IntKind.bits]
theorem lit_u64 {x y : Int} (h : x = y) (h1 : 0 ≤ y) (h2 : y < 18446744073709551616) : A.d (.lit (.int .u64 (IntKind.u64.wrap x))) = .d (.lit (.int .u64 y)) := by
  subst h; rw [wrap_u64, Int.emod_eq_of_lt h1 h2]
theorem lit_u8 {x y : Int} (h : x % 256 = y) : A.d (.lit (.int .u8 (IntKind.u8.wrap x))) = .d (.lit (.int .u8 y)) := by rw [wrap_u8, h]
theorem shr_nat (u n : Nat) : ((u : Int)).fdiv (2 ^ n) = ((u / 2 ^ n : Nat) : Int) := by
  rw [Int.fdiv_eq_ediv_of_nonneg _ (Int.pow_nonneg (by decide))]
  push_cast
  rfl
theorem lit_shr {k : IntKind} {u n : Nat} {z : Int} (h : ((u / 2 ^ n : Nat) : Int) = z) : A.d (.lit (.int k (((u : Nat) : Int).fdiv (2 ^ n)))) = .d (.lit (.int k z)) := by rw [shr_nat, h]
section
variable {P : Program}
theorem run_conv {s t : TypeId} {ds : TypeDesc} {k k' : IntKind} {a : Int} (hs : P.underlying s = some ds) (ht : P.underlying t = some (.int k')) (w : World) : (convert s t (.int k a)).run P w = .ok (.int k' (k'.wrap a)) w := by
  simp [convert, run_underlying hs, run_underlying ht, Conv.intToInt]
end
theorem mk_bytes (n : Nat) : (List.replicate n ([Value.int .u8 0].map litD)).flatten = bytesD (List.replicate n 0) := by
  induction n with
  | zero => rfl
  | succ n ih => rw [List.replicate_succ, List.flatten_cons, ih]; rfl
theorem put_bytes {l z r : List UInt8} : putC (bytesD (l ++ z)) (l.length * 1) (bytesD r) = bytesD (l ++ r ++ z.drop r.length) := by
  unfold putC
  simp only [bytesD_length, Nat.mul_one]
  rw [bytesD_append, List.take_left' (by simp), List.drop_append, List.drop_of_length_le (by simp), bytesD_append, bytesD_append, List.nil_append]
  congr 1
  simp only [bytesD, List.map_drop, List.length_map, Nat.add_sub_cancel_left]
theorem put_bytes0 {z r : List UInt8} : putC (bytesD z) 0 (bytesD r) = bytesD (r ++ z.drop r.length) := by
  have := put_bytes (l := []) (z := z) (r := r)
  simpa using this
section
variable {P : Program} {o : Oper} {st : St}
/-- 's[n:]', n its length. -/
theorem op_sliceEmpty {t e sz : Nat} {x lo : Operand} {y : A} {ds : List D} {off n : Nat} {k : IntKind} {v : Int} (ho : o.op = .slice t x (some lo) none none) (he : sliceElem P t = some (e, sz)) (hx : opA st x = y) (hy : sliceAt st.H y = some (ds, off, n)) (hlo : opA st lo = .d (.lit (.int k v))) (hv : v = (n : Int)) :
    OpRun P o st (locsOf [x, lo] ++ locA y) (.d (.sl 0 [])) [] := by
  refine .pure fun st' hag cx m S a w hs => ?_
  have hr := op_rep hx (R := locsOf [x, lo] ++ locA y) (fun l h => by simp [locsOf, h]) hag hs
  have hev := op_lit hlo (R := locsOf [x, lo] ++ locA y) (fun l h => by simp [locsOf, h]) hag hs
  rw [← sliceA_agree fun l h => hag l (by simp [h])] at hy
  obtain ⟨p, cap, hvv, k1, k2, k3, k4⟩ := sliceAt_spec hs.hold hy hr
  refine ⟨_, run_slice (P := P) (l := n) (h := n) ho he hvv ⟨k, by rw [hev, hv]⟩ rfl (Nat.le_refl _) k1, ?_⟩
  simp only [Rep]
  unfold RepD
  refine ⟨_, _, by rw [Nat.sub_self], Nat.zero_le _, by omega, fun hp => ⟨rfl, ?_⟩, by simp only [RepDs]⟩
  cases p with
  | none => have := (k3 rfl).2; omega
  | some q => split at hp <;> cases hp
theorem op_copyNone {t ts e : Nat} {d s : Operand} {y : A} {ds : List D} {off : Nat} {str : ByteArray} (ho : o.op = .call ⟨.builtin .copy, #[d, s], #[t, ts]⟩) (he : sliceElem P t = some (e, 1)) (hd : opA st d = y) (hy : sliceAt st.H y = some (ds, off, 0)) (hx : opA st s = .d (.lit (.string str))) : OpRun P o st (locsOf [d, s] ++ locA y) (.d (.lit (.int .i64 0))) [] := by
  refine .pure fun st' hag cx m S a w hs => ⟨.int .i64 0, ?_, by simp only [Rep]; unfold RepD; exact ⟨rfl, rfl⟩⟩
  have hr := op_rep hd (R := locsOf [d, s] ++ locA y) (fun l h => by simp [locsOf, h]) hag hs
  have hev := op_lit hx (R := locsOf [d, s] ++ locA y) (fun l h => by simp [locsOf, h]) hag hs
  rw [← sliceA_agree fun l h => hag l (by simp [h])] at hy
  obtain ⟨p, cap, hvv, k1, k2, k3, k4⟩ := sliceAt_spec hs.hold hy hr
  obtain ⟨hu, inf, hinf, hsz⟩ := sliceElem_spec he
  have hmin : Nat.min str.size 0 = 0 := Nat.min_eq_right (Nat.zero_le _)
  have hfc : (Builtin.firstCells inf.size 0 (.string str)).run P w = .ok #[] w := by
    have : (str.extract 0 0).data = #[] := by
      apply Array.ext'
      simp [ByteArray.data_extract]
    simp [Builtin.firstCells, this]
  cases p <;> simp [execOp, ho, resolve, invoke, builtin, hvv, hev, Builtin.copy_, run_underlying hu, sizeOf, typeInfo, hinf, Builtin.lenOf, hmin, hfc, storeCells, goInt]
end
theorem arr_ren {ids : List Nat} {e sz n n' : Nat} {xs ys : List D} (h1 : n = n') (h2 : xs = ys) : (Blk.arr e sz n xs).ren ids = some (.arr e sz n' ys) := by rw [h1, h2]; rfl
theorem byte_nat (x : Nat) : (UInt8.ofNat (x % 256)).toNat = x % 256 := by rw [UInt8.toNat_ofNat']; exact Nat.mod_eq_of_lt (by omega)
theorem shr8 (u k : Nat) : ((u / 256 ^ k / 2 ^ 8 : Nat) : Int) = ((u / 256 ^ (k + 1) : Nat) : Int) := by rw [show (2 : Nat) ^ 8 = 256 from rfl, Nat.pow_succ, ← Nat.div_div_eq_div_mul]
/-- A contract whose new blocks are frozen. -/
theorem GCall.frz {P : Program} {f : FuncId} {args : List A} {res res' : A} {post : List Blk} (h : GCall P f args [] res post) (vids : List Nat) (hr : res'.ren [] = some (A.nn (res.view post vids))) : GCall P f args [] res' [] := by
  intro m S w vs hg hz hH hargs
  refine Calls.mono (h m S w vs hg hz hH hargs) fun e w' ⟨v, m', S', he, h1, h2⟩ => ⟨v, via [] (fzm m' post vids), SV' m' S' vids, he, ?_, ?_⟩
  · have hf := h1.freeze (vids := vids) (H' := putB post (vids.map fun id => (id, (post.getD id .unborn).frz))) fun k => by
      rw [getD_putB, lastB_frz]
      by_cases hk : k ∈ vids <;> simp [hk]
    exact hf.via (ids := []) List.nodup_nil ⟨rfl, fun j k hk => by simp at hk⟩ fun id p hp => by
      have := hH.ok id
      simp only [List.getD_nil, BlkOK] at this
      simp only at hp
      rw [this] at hp; cases hp
  · exact (Rep.via res' _ v hr).2 (Rep.nn _ _ (Rep.mono (fzm_le h1 vids) (fun _ h => h) (Keeps.refl _ w') _ _ (Rep.view h1 _ _ h2)))
/-- A text added to a row of bytes. -/
theorem op_appendStr {P : Program} {o : Oper} {st : St} {t u e id nid n : Nat} {s x : Operand} {xs : List D} {str : ByteArray} (ho : o.op = .call ⟨.builtin .append, #[s, x], #[t, u]⟩) (E : ElemOK P t e 1 1 (.int .u8 0)) (hu : P.underlying u = some .string) (hs0 : opA st s = .own id) (hb : st.H.getD id .unborn = .arr e 1 n xs) (hx : opA st x = .d (.lit (.string str)))
    (hbytes : n + str.size ≤ 140737488355328) (hnid : st.H.getD nid .unborn = .unborn) (hne : id ≠ nid) : OpRun P o st (locsOf [s, x] ++ [.blk id, .blk nid]) (.own nid) [(id, .gone), (nid, .arr e 1 (n + str.size) (xs ++ bytesD str.data.toList))] := by
  refine .value fun st' hag cx m S a w hs => ?_
  have hnid' : st'.H.getD nid .unborn = .unborn := (blk1 (by simp) hag).trans hnid
  have hb' : st'.H.getD id .unborn = .arr e 1 n xs := (blk1 (by simp) hag).trans hb
  have hrs := op_rep hs0 (R := locsOf [s, x] ++ [.blk id, .blk nid]) (fun l h => by simp [locsOf, h]) hag hs
  have hev := op_lit hx (R := locsOf [s, x] ++ [.blk id, .blk nid]) (fun l h => by simp [locsOf, h]) hag hs
  have hok := hs.hold.ok id
  rw [hb'] at hok
  obtain ⟨v, h5, ⟨cells, h6, h7, h8⟩, h9⟩ := hok
  simp only [Rep, h5] at hrs
  obtain ⟨hrs, _⟩ := hrs
  obtain ⟨i, hi, hz, h4, hby⟩ := E.parts
  have hm : n + str.size ≤ maxLen := by unfold maxLen; omega
  obtain ⟨v', w', hrun, j1, j2, j3⟩ := run_append_own_stringR (P := P) w t u o.type e i E.slice hu hi hz h4 hby v n cells h6 str hm hbytes
  have k1 : RepsD S w (bytesD str.data.toList) (strCells str) := ⟨by rw [strCells_length, bytesD_length]; rfl, fun j x u hx hu => by
    simp only [strCells, bytesD, List.getElem?_map] at hx hu
    cases hj : str.data.toList[j]? with
    | none => rw [hj] at hx; cases hx
    | some b => rw [hj] at hx hu; cases hx; cases hu; unfold byteD RepD; exact ⟨rfl, rfl⟩⟩
  have hold := hold_grow (b := .arr e 1 (n + str.size) (xs ++ bytesD str.data.toList)) hs.hold h5 h9 hnid' hne j2 (ownsRow_lt j1) j3 fun hK hLe => by
    refine ⟨v', by simp only [updM, if_true], ⟨cells ++ strCells str, j1, ?_, fun u hu => ?_⟩, fun g hg hS => ?_⟩
    · have r1 := h7.mono (fun _ h => h) hK
      have r2 := k1.mono (fun _ h => h) hK
      refine ⟨by rw [List.length_append, List.length_append, r1.1, r2.1], fun i x u hx hu => ?_⟩
      rw [List.getElem?_append] at hx hu
      rw [r1.1] at hu
      split at hx
      · rename_i hi; rw [if_pos hi] at hu; exact r1.2 i x u hx hu
      · rename_i hi; rw [if_neg hi] at hu; exact r2.2 _ x u hx hu
    · rcases List.mem_append.1 hu with hu | hu
      · exact h8 u hu
      · exact strCells_oneCell str u hu
    · rcases j3 g hg with h | h
      · exact h9 g h hS
      · have := (hs.hold.s g hS).2; omega
  refine ⟨v', w', _, S, ?_, hold.1, fun _ h => h, hold.2.1, hold.2.2, ?_⟩
  · simp [execOp, ho, resolve, invoke, builtin, hrs, hev, hrun]
  · simp only [Rep, updM, if_true]
    refine ⟨trivial, ?_⟩
    obtain ⟨_, ⟨rfl, _⟩ | ⟨g, cap, cur, rfl, _⟩⟩ := j1 <;> rfl
end Go.Proofs.YtaaooafcijdbmaaDoor.K

namespace Go.Proofs.YtaaooafcijdbmaaDoor
open Go.RowKit

/-- A slice that reads as these cells (sz of them an element). -/
def IsSl (sz : Nat) (cs : List Value) : SP := fun v w => ∃ a n cap, v = .slice a n cap ∧ cs.length = n * sz ∧ n ≤ cap ∧ cap ≤ maxLen ∧ (a = none → n = 0 ∧ cap = 0) ∧
  ∀ p, a = some p → ∀ j u, cs[j]? = some u → w.cell? (p.add j) = some u
/-- A slice that lies at the head of a block of our own (from block B on), or nil. -/
def Owns (B : Nat) (e : TypeId) (sz : Nat) (cs : List Value) : SP := fun v w => ∃ n, w.ownsRow B e sz v n cs

theorem cell_ext {w w' : World} (h : Ext w w') {a : Addr} {u : Value} (hc : w.cell? a = some u) : w'.cell? a = some u := by
  rw [h.cell (World.block_lt_of_cell? w a hc)]; exact hc
theorem IsSl.stable (sz : Nat) (cs : List Value) : Stable (IsSl sz cs) := by
  rintro v w w' ⟨a, n, cap, rfl, hl, hn, hc, ha, h⟩ hx
  exact ⟨a, n, cap, rfl, hl, hn, hc, ha, fun p hp j u hj => cell_ext hx (h p hp j u hj)⟩
theorem IsSl.ext {sz : Nat} {cs : List Value} {v : Value} {w w' : World} (h : IsSl sz cs v w) (hx : Ext w w') : IsSl sz cs v w' := IsSl.stable sz cs v w w' h hx
theorem Owns.stable (B : Nat) (e : TypeId) (sz : Nat) (cs : List Value) : Stable (Owns B e sz cs) := by
  rintro v w w' ⟨n, h⟩ hx
  exact ⟨n, h.kept (row := none) ⟨hx.os, hx.tape, hx.output, hx.size, fun k hk _ => hx.block k hk⟩ (by cases v.ownBlock <;> simp)⟩
theorem Owns.ext {B : Nat} {e : TypeId} {sz : Nat} {cs : List Value} {v : Value} {w w' : World} (h : Owns B e sz cs v w) (hx : Ext w w') : Owns B e sz cs v w' := Owns.stable B e sz cs v w w' h hx
theorem Owns.mono {B B' : Nat} {e : TypeId} {sz : Nat} {cs : List Value} {v : Value} {w : World} (h : Owns B e sz cs v w) (hB : B' ≤ B) : Owns B' e sz cs v w := by
  obtain ⟨n, h1, h2⟩ := h
  refine ⟨n, h1, ?_⟩
  rcases h2 with h2 | ⟨g, cap, cur, hv, hg, r⟩
  · exact .inl h2
  · exact .inr ⟨g, cap, cur, hv, by omega, r⟩
theorem Owns.nil (B : Nat) (e : TypeId) (sz : Nat) (w : World) : Owns B e sz [] (.slice none 0 0) w := ⟨0, World.ownsRow_nil w B e sz⟩
theorem addr_add (b o j : Nat) : (⟨b, o, none⟩ : Addr).add j = ⟨b, o + j, none⟩ := by unfold Addr.add; split <;> simp_all
theorem Owns.lit (w : World) (e : TypeId) (sz : Nat) (cs : List Value) (n : Nat) (hn : cs.length = n * sz) (hm : n ≤ maxLen) :
    Owns w.heap.size e sz cs (.slice (some ⟨w.heap.size, 0, none⟩) n n) (w.alloc (.cells cs.toArray e)) := by
  have := World.ownsRow_lit (base := w.heap.size) (e := e) (size := sz) w cs.toArray n (Nat.le_refl _) hm (by simpa using hn)
  exact ⟨n, by simpa using this⟩
/-- A slice that is not empty, taken apart. -/
theorem IsSl.at {sz : Nat} {cs : List Value} {v : Value} {w : World} (h : IsSl sz cs v w) (hne : cs ≠ []) :
    ∃ b off n cap, v = .slice (some ⟨b, off, none⟩) n cap ∧ cs.length = n * sz ∧ n ≤ cap ∧ cap ≤ maxLen ∧ ∀ j u, cs[j]? = some u → w.cell? ⟨b, off + j, none⟩ = some u := by
  obtain ⟨a, n, cap, rfl, hl, hn, hc, ha, hcell⟩ := h
  cases a with
  | none =>
    obtain ⟨rfl, rfl⟩ := ha rfl
    exact absurd (List.eq_nil_of_length_eq_zero (by simpa using hl)) hne
  | some p =>
    obtain ⟨b, off, spot⟩ := p
    have h0 := hcell _ rfl 0 (cs[0]'(List.length_pos_iff.2 hne)) (by simp)
    have hspot : spot = none := by simpa [Addr.add] using World.cell?_spot h0
    subst hspot
    exact ⟨b, off, n, cap, rfl, hl, hn, hc, fun j u hj => by rw [← addr_add]; exact hcell _ rfl j u hj⟩
theorem Owns.at {B : Nat} {e : TypeId} {sz : Nat} {cs : List Value} {v : Value} {w : World} (h : Owns B e sz cs v w) (hne : cs ≠ []) :
    ∃ g n cap, v = .slice (some ⟨g, 0, none⟩) n cap ∧ B ≤ g ∧ cs.length = n * sz ∧ n ≤ cap ∧ cap ≤ maxLen ∧ ∀ j u, cs[j]? = some u → w.cell? ⟨g, j, none⟩ = some u := by
  obtain ⟨n, h⟩ := h
  have h' := h
  obtain ⟨h1, h2 | ⟨g, cap, cur, rfl, hg, hh, hn, hm, hs, ht⟩⟩ := h
  · obtain ⟨rfl, rfl⟩ := h2
    exact absurd (List.eq_nil_of_length_eq_zero (by simpa using h1)) hne
  · exact ⟨g, n, cap, rfl, hg, h1, hn, hm, fun j u hj => by have := h'.cells (g := g) rfl j u hj; rwa [addr_add, Nat.zero_add] at this⟩
theorem IsSl.ptr {sz : Nat} {cs : List Value} {a : Option Addr} {n cap : Nat} {w : World} (h : IsSl sz cs (.slice a n cap) w) (hne : 0 < cs.length) : ∃ b off, a = some ⟨b, off, none⟩ := by
  obtain ⟨b, off, n', cap', he, _⟩ := h.at (List.length_pos_iff.1 hne)
  simp only [Value.slice.injEq] at he
  exact ⟨b, off, he.1⟩
theorem Ext.grown {w0 w w' : World} {e : TypeId} {sz : Nat} {cs : List Value} {v : Value} (hx : Ext w0 w) (ho : Owns w0.heap.size e sz cs v w) (hg : w.grownBy w' v.ownBlock) : Ext w0 w' := by
  obtain ⟨n, ho⟩ := ho
  exact Below.grown hx hg hx.size fun k hk => (ho.lt k hk).1
/-- Blocks of cells of another type than e are as they were. -/
def Other (e : TypeId) (w w' : World) : Prop := ∀ (g : Nat) (cur : Array Value) (e' : TypeId) (fr : Nat × Nat), w.heap[g]? = some (Obj.cells cur e' fr) → e' ≠ e → w'.heap[g]? = some (Obj.cells cur e' fr)
theorem Other.refl (e : TypeId) (w : World) : Other e w w := fun _ _ _ _ h _ => h
theorem Other.trans {e : TypeId} {a b c : World} (h : Other e a b) (k : Other e b c) : Other e a c := fun g cur e' fr h1 h2 => k g cur e' fr (h g cur e' fr h1 h2) h2
theorem Ext.other {w w' : World} (h : Ext w w') (e : TypeId) : Other e w w' := fun g cur e' fr h1 _ => by
  rw [h.block g (Array.getElem?_eq_some_iff.1 h1).1]; exact h1
theorem Other.grown {e : TypeId} {sz : Nat} {B : Nat} {cs : List Value} {v : Value} {w w' : World} (ho : Owns B e sz cs v w) (hg : w.grownBy w' v.ownBlock) : Other e w w' := by
  intro g cur e' fr h1 h2
  rw [hg.block g (Array.getElem?_eq_some_iff.1 h1).1 fun hrow => ?_]; exact h1
  obtain ⟨n, _, ⟨rfl, _⟩ | ⟨g', cap, cur', rfl, _, hh, _⟩⟩ := ho
  · simp [Value.ownBlock] at hrow
  · simp only [Value.ownBlock, Option.some.injEq] at hrow
    subst hrow
    rw [hh] at h1
    simp only [Option.some.injEq, Obj.cells.injEq] at h1
    exact h2 h1.2.1.symm
theorem Owns.other {B : Nat} {e e' : TypeId} {sz : Nat} {cs : List Value} {v : Value} {w w' : World} (h : Owns B e sz cs v w) (ho : Other e' w w') (hne : e ≠ e') : Owns B e sz cs v w' := by
  obtain ⟨n, h1, h2⟩ := h
  refine ⟨n, h1, ?_⟩
  rcases h2 with h2 | ⟨g, cap, cur, hv, hg, hh, r⟩
  · exact .inl h2
  · exact .inr ⟨g, cap, cur, hv, hg, ho g cur e _ hh hne, r⟩
theorem IsSl.lit (w : World) (e : TypeId) (sz : Nat) (cs : List Value) (n : Nat) (hn : cs.length = n * sz) (hm : n ≤ maxLen) :
    IsSl sz cs (.slice (some ⟨w.heap.size, 0, none⟩) n n) (w.alloc (.cells cs.toArray e)) :=
  ⟨_, n, n, rfl, hn, Nat.le_refl _, hm, (fun h => by cases h), fun p hp j u hj => by
    cases hp
    rw [addr_add, Nat.zero_add, World.cell?_alloc_new]
    simpa using hj⟩

section
variable {P : Program}
end

/-- Bytes as cells. -/
def bytesC (l : List UInt8) : List Value := l.map fun b => .int .u8 b.toNat
abbrev IsBytes (l : List UInt8) : SP := IsSl 1 (bytesC l)
theorem Gives.base {P : Program} {f : FuncId} {args : Array Value} {w : World} {B B' : Nat} {e : TypeId} {sz : Nat} {cs : List Value} (h : Gives P f args w (Owns B e sz cs)) (hB : B' ≤ B) : Gives P f args w (Owns B' e sz cs) :=
  h.mono fun _ _ ho => ho.mono hB
section
variable {P : Program} {ops : Array Oper} {w0 : World} {tm : List Value} {Q : Exit → Act → World → Prop} {df : List Deferred} {rest l : List Oper} {U : List (Nat × SV)} {o : Oper} {d : Nat}
end
end Go.Proofs.YtaaooafcijdbmaaDoor

namespace Go.Proofs.YtaaooafcijdbmaaDoor.K
open Go.RowKit Go.Lib
section
variable {P : Program} {o : Oper} {st : St}
def arrElem (P : Program) (t : TypeId) : Option (Nat × Nat) := match P.underlying t with
  | some (.array n e) => (P.info? e).map fun i => (n, i.size)
  | _ => none
theorem arrElem_spec {t n sz : Nat} (h : arrElem P t = some (n, sz)) : ∃ e i, P.underlying t = some (.array n e) ∧ P.info? e = some i ∧ i.size = sz := by
  unfold arrElem at h
  cases hu : P.underlying t with
  | none => rw [hu] at h; cases h
  | some d =>
    rw [hu] at h
    cases d with
    | array n' e =>
      simp only at h
      cases hi : P.info? e with
      | none => rw [hi] at h; cases h
      | some i => rw [hi] at h; cases h; exact ⟨e, i, rfl, hi, rfl⟩
    | _ => cases h
theorem op_iaddr_arr {t n sz i : Nat} {x ix : Operand} {y : A} {k : IntKind} {iv : Int} (ho : o.op = .indexAddr t x ix) (hy : opA st x = y) (hc : (cellsAt st.H y).isSome = true) (he : arrElem P t = some (n, sz)) (hi : opA st ix = .d (.lit (.int k iv))) (hiv : iv = (i : Int)) (hin : i < n) :
    OpRun P o st (locsOf [x, ix] ++ locA y) (addA (i * sz) y) [] := by
  refine .pure fun st' hag cx m S a w hs => ?_
  have hr := op_rep hy (R := locsOf [x, ix] ++ locA y) (fun l h => by simp [locsOf, h]) hag hs
  have hix := op_lit hi (R := locsOf [x, ix] ++ locA y) (fun l h => by simp [locsOf, h]) hag hs
  rw [← locA_agree fun l h => hag l (by simp [h])] at hc
  obtain ⟨p, hp, h2⟩ := addA_rep hs.hold hr (by cases h : cellsAt st'.H y <;> simp_all) (i * sz)
  obtain ⟨e, inf, hu, hinf, hsz⟩ := arrElem_spec he
  refine ⟨_, ?_, h2⟩
  subst hiv
  have h0 : (0 : Int) ≤ i ∧ (i : Int) < n := by omega
  simp [execOp, ho, Instr.indexAt, hix, asIntOf, run_underlying hu, hp, Instr.sureAddr, sizeOf, typeInfo, hinf, hsz, hin]
/-! ### texts in order -/
/-! ### structs of plain cells -/
def scalEq (P : Program) (t : TypeId) (a b : Value) : Option Bool := match P.underlying t, a, b with
  | some (.int _), .int k x, .int k' y => match decide (k = k') with | true => some (decide (x = y)) | false => none
  | some .bool, .bool x, .bool y => some (decide (x = y))
  | some .string, .string x, .string y => some (decide (x = y))
  | _, _, _ => none
theorem scalEq_run {t : TypeId} {a b : Value} {r : Bool} (h : scalEq P t a b = some r) (d : Nat) (w : World) : (Op.equalIn (d + 1) t a b).run P w = .ok r w := by
  unfold scalEq at h
  split at h
  · next k0 k x k' y hu =>
    split at h
    · next hk => cases of_decide_eq_true hk; cases h; rw [run_equalIn_int w d t k _ x y hu]; congr 1
    · cases h
  · next x y hu => cases h; rw [run_equalIn_bool' w d t x y hu]; congr 1
  · next x y hu =>
    cases h; rw [run_equalIn_string w d t x y hu]
    congr 1
    exact Bool.eq_iff_iff.2 (by simp [toList_inj])
  · cases h
def partV (P : Program) (t : TypeId) (xs : List Value) (off : Nat) : Option Value := match P.underlying t with
  | some (.struct _) | some (.array _ _) | none => none
  | some _ => xs[off]?
theorem partV_run {t : TypeId} {xs : List Value} {off : Nat} {v : Value} (h : partV P t xs off = some v) (w : World) : (part t xs.toArray off).run P w = .ok v w := by
  unfold partV at h
  cases hu : P.underlying t with
  | none => rw [hu] at h; cases h
  | some d =>
    rw [hu] at h
    cases d <;> first | (simp only at h; cases h; done) | (simp only at h; simp [part, isAgg, run_underlying hu, h])
def fieldsEq (P : Program) (xs ys : List Value) : List Field → Option Bool
  | [] => some true
  | f :: fs => match decide (f.name ≠ "_"), partV P f.type xs f.offset, partV P f.type ys f.offset with
    | true, some a, some b => match scalEq P f.type a b, fieldsEq P xs ys fs with
      | some r, some s => some (r && s)
      | _, _ => none
    | _, _, _ => none
theorem fieldsEq_run {xs ys : List Value} (d : Nat) (w : World) : ∀ {fs : List Field} {r : Bool}, fieldsEq P xs ys fs = some r → (Op.eqFields (d + 1) xs.toArray ys.toArray fs).run P w = .ok r w
  | [], r, h => by cases h; simp [Op.eqFields]
  | f :: fs, r, h => by
    unfold fieldsEq at h
    split at h
    · next a b hn ha hb =>
      split at h
      · next q s hq hs =>
        cases h
        have ih := fieldsEq_run d w hs
        simp only [Op.eqFields, if_pos (of_decide_eq_true hn), Sem.run_bind, partV_run ha, partV_run hb, Result.andThen_ok, scalEq_run hq]
        cases q
        · simp
        · simp [ih]
      · cases h
    · cases h
def structEq (P : Program) (t : TypeId) (xs ys : List Value) : Option Bool := match P.underlying t, P.stoodInHeld t, P.eqGuardType P.depth t with
  | some (.struct fs), false, false => fieldsEq P xs ys fs.toList
  | _, _, _ => none
theorem structEq_spec {t : TypeId} {xs ys : List Value} {r : Bool} (h : structEq P t xs ys = some r) (w : World) : (Op.equalIn 10000 t (.agg xs.toArray) (.agg ys.toArray)).run P w = .ok r w ∧ P.eqGuardType P.depth t = false := by
  unfold structEq at h
  split at h
  · next fs hu hs hg =>
    refine ⟨?_, hg⟩
    have hf : P.fieldsOf t = fs := by simp [Program.fieldsOf, hu]
    rw [show (10000 : Nat) = 9998 + 1 + 1 from rfl, run_equalIn_struct w (9998 + 1) t _ _ (by rw [hf]; exact hu) hs, hf]
    exact fieldsEq_run 9998 w h
  · cases h
def litsOf : List A → Option (List Value)
  | [] => some []
  | .d (.lit v) :: als => (litsOf als).map (v :: ·)
  | _ => none
theorem litsOf_spec {m : Mp} {S : Nat → Prop} {w : World} : ∀ {als : List A} {us vs : List Value}, litsOf als = some us → Reps m S w als vs → vs = us
  | [], us, vs, h, hr => by cases h; simp only [Reps] at hr; exact hr
  | a :: als, us, vs, h, hr => by
    unfold litsOf at h
    split at h
    · next heq => cases heq
    · next v als' heq =>
      cases heq
      cases hl : litsOf als with
      | none => rw [hl] at h; cases h
      | some l =>
        rw [hl] at h; cases h
        simp only [Reps] at hr
        obtain ⟨u, r, rfl, h1, h2⟩ := hr
        simp only [Rep] at h1
        unfold RepD at h1
        rw [h1.1, litsOf_spec hl h2]
    · cases h
theorem op_agg_lits {x : Operand} {als : List A} {us : List Value} {R : List Loc} (hx : opA st x = .agg als) (hl : litsOf als = some us) (hR : ∀ l ∈ locOf x, l ∈ R) {st' : St} (hag : ∀ l ∈ R, st'.at l = st.at l) {cx : Cx} {m : Mp} {S : Nat → Prop} {a : Act} {w : World} (hs : Sim cx m S a w st') : a.eval x = .agg us.toArray := by
  have hr := op_rep hx hR hag hs
  simp only [Rep] at hr
  obtain ⟨vs, h1, h2⟩ := hr
  have := litsOf_spec hl h2
  rw [h1]; congr 1
  apply Array.ext'; simpa using this
theorem op_eql_struct {t u : TypeId} {x y : Operand} {la lb : List A} {us vs : List Value} {r : Bool} (ho : o.op = .binOp .eql t x y u) (hx : opA st x = .agg la) (hy : opA st y = .agg lb) (h1 : litsOf la = some us) (h2 : litsOf lb = some vs) (h : structEq P t us vs = some r) : OpRun P o st (locsOf [x, y]) (.d (.lit (.bool r))) [] := by
  refine .pure fun st' hag cx m S a w hs => ⟨.bool r, ?_, by simp only [Rep]; unfold RepD; exact ⟨rfl, rfl⟩⟩
  have e1 := op_agg_lits hx h1 (R := locsOf [x, y]) (fun l h => by simp [locsOf, h]) hag hs
  have e2 := op_agg_lits hy h2 (R := locsOf [x, y]) (fun l h => by simp [locsOf, h]) hag hs
  have k := structEq_spec h w
  simp only [execOp, ho, e1, e2, Sem.run_bind, run_eqGuard_agg w _ _ _ _ _ _ k.2, Result.andThen_ok, run_eql_struct, k.1]
  simp
theorem op_neq_struct {t u : TypeId} {x y : Operand} {la lb : List A} {us vs : List Value} {r : Bool} (ho : o.op = .binOp .neq t x y u) (hx : opA st x = .agg la) (hy : opA st y = .agg lb) (h1 : litsOf la = some us) (h2 : litsOf lb = some vs) (h : structEq P t us vs = some r) : OpRun P o st (locsOf [x, y]) (.d (.lit (.bool (!r)))) [] := by
  refine .pure fun st' hag cx m S a w hs => ⟨.bool (!r), ?_, by simp only [Rep]; unfold RepD; exact ⟨rfl, rfl⟩⟩
  have e1 := op_agg_lits hx h1 (R := locsOf [x, y]) (fun l h => by simp [locsOf, h]) hag hs
  have e2 := op_agg_lits hy h2 (R := locsOf [x, y]) (fun l h => by simp [locsOf, h]) hag hs
  have k := structEq_spec h w
  simp only [execOp, ho, e1, e2, Sem.run_bind, run_eqGuard_agg w _ _ _ _ _ _ k.2, Result.andThen_ok, run_neq_struct, k.1]
  simp
end
/-! ### from a contract to a law -/
theorem law_join {P : Program} {f : FuncId} {args : List A} {W : World} {vs : List Value} (h : GCall P f args [] (.d (.lit (.bool true))) []) (hr : Reps (fun _ => none) (fun b => b < W.heap.size) W args vs) (hg : GW (fun b => b < W.heap.size) W := by exact fun _ _ h => nomatch h) : Calls P f vs.toArray W fun e W' => ∃ v, e = .returned v ∧ Below W.heap.size W W' ∧ v = .bool true := by
  refine Calls.mono (h (fun _ => none) (fun b => b < W.heap.size) W vs hg (fun _ h => h) ?_ hr) fun e w' ⟨v, m', S', he, h1, h2⟩ => ⟨v, he, ⟨h1.os, h1.tape, h1.output, h1.size, fun k hk => h1.old k hk fun ⟨id, p, hp, _⟩ => by cases hp⟩, ?_⟩
  · exact ⟨rfl, rfl, rfl, Nat.le_refl _, fun _ _ _ => rfl, fun _ h => h, fun b hb => ⟨.inl hb, hb⟩, fun id p b hp => (by cases hp), fun id id' p p' b _ hp => (by cases hp), fun id => rfl, Le.refl _⟩
  · simp only [Rep] at h2; unfold RepD at h2; exact h2.1
end Go.Proofs.YtaaooafcijdbmaaDoor.K

namespace Go.Proofs.YtaaooafcijdbmaaDoor.K
open Go.ChangeShapes Go.WideShapes Go.ChangeAt Go.RowKit

/-- These cells are data of this type. -/
inductive TD (P : Program) : TypeId → List D → Prop
  | bool {t : TypeId} (h : P.underlying t = some .bool) (b : Bool) : TD P t [.lit (.bool b)]
  | int {t : TypeId} {k : IntKind} (h : P.underlying t = some (.int k)) (n : Int) (hw : (Lit.int k n).wf = true) : TD P t [.lit (.int k n)]
  | str {t : TypeId} (h : P.underlying t = some .string) (s : ByteArray) (hs : s.size ≤ maxLen) : TD P t [.lit (.string s)]
  | slice {t e : TypeId} (h : P.underlying t = some (.slice e)) (rows : List (List D)) (hn : rows.length ≤ maxLen) (hr : ∀ r ∈ rows, TD P e r) : TD P t [.sl rows.length rows.flatten]
  | struct {t : TypeId} {fs : Array Field} (h : P.underlying t = some (.struct fs)) (parts : List (List D)) (hl : parts.length = fs.toList.length) (hp : ∀ (i : Nat) (f : Field) (p : List D), fs.toList[i]? = some f → parts[i]? = some p → TD P f.type p) : TD P t parts.flatten
  | array {t : TypeId} {n : Nat} {e : TypeId} (h : P.underlying t = some (.array n e)) (parts : List (List D)) (hl : parts.length = n) (hp : ∀ p ∈ parts, TD P e p) : TD P t parts.flatten
def tightF (P : Program) : Nat → List Field → Option Nat
  | off, [] => some off
  | off, f :: fs => match decide (f.offset = off) with | true => tightF P (off + P.cellsOf f.type) fs | false => none
def plainT (P : Program) : Nat → TypeId → Bool
  | 0, _ => false
  | d + 1, t => match P.underlying t with
    | some .bool | some (.int _) | some .string => true
    | some (.slice e) => plainT P d e
    | some (.struct fs) => fs.toList.all (fun f => plainT P d f.type) && decide (tightF P 0 fs.toList = some (P.cellsOf t))
    | some (.array n e) => plainT P d e && decide (P.cellsOf t = n * P.cellsOf e)
    | _ => false
section
variable {S : Nat → Prop} {w : World}
theorem repsD_one {x : D} {v : Value} (h : RepD S w x v) : RepsD S w [x] [v] := ⟨rfl, fun i a b ha hb => by
  match i with
  | 0 => simp only [List.getElem?_cons_zero, Option.some.injEq] at ha hb; subst ha; subst hb; exact h
  | i + 1 => simp at ha⟩
theorem repsD_nil : RepsD S w [] [] := ⟨rfl, fun i a b ha => by simp at ha⟩
theorem repsD_app {xs ys : List D} {vs us : List Value} (h : RepsD S w xs vs) (k : RepsD S w ys us) : RepsD S w (xs ++ ys) (vs ++ us) := by
  refine ⟨by rw [List.length_append, List.length_append, h.1, k.1], fun i x u hx hu => ?_⟩
  rw [List.getElem?_append] at hx hu
  rw [h.1] at hu
  split at hx
  · rename_i hi; rw [if_pos hi] at hu; exact h.2 i x u hx hu
  · rename_i hi; rw [if_neg hi] at hu; exact k.2 _ x u hx hu
end
theorem flat_uniform {α : Type} {k : Nat} : ∀ {rows : List (List α)}, (∀ r ∈ rows, r.length = k) → ∀ {j : Nat} {c : α}, rows.flatten[j]? = some c → ∃ (i r : Nat) (row : List α), rows[i]? = some row ∧ row[r]? = some c ∧ r < k ∧ j = i * k + r
  | [], _, j, c, h => by simp at h
  | row :: rows, hk, j, c, h => by
    rw [List.flatten_cons, List.getElem?_append] at h
    have hl := hk row (by simp)
    split at h
    · next hj => exact ⟨0, j, row, rfl, h, by omega, by omega⟩
    · next hj =>
      obtain ⟨i, r, row', h1, h2, h3, h4⟩ := flat_uniform (fun r hr => hk r (by simp [hr])) h
      refine ⟨i + 1, r, row', by simpa using h1, h2, h3, ?_⟩
      rw [Nat.add_mul]; omega
theorem cells_each {w : World} {a : Addr} {n : Nat} {cs : List Value} (h : w.cells? 0 a n = some cs) : cs.length = n ∧ ∀ i u, cs[i]? = some u → w.cell? (a.add i) = some u := by
  unfold World.cells? at h
  rw [if_pos (Nat.zero_le _)] at h
  have hl := mapM_some_length h
  rw [List.length_range] at hl
  refine ⟨hl, fun i u hu => ?_⟩
  have hi : i < n := by rw [← hl]; exact (List.getElem?_eq_some_iff.1 hu).1
  have := mapM_some_get h i i (by simp [hi])
  rw [this]; exact hu
section
variable {H : Type} {enc : TypeId × Value → H} {P : Program} {W : World}
/-- What is opened at one place. -/
def Opened (P : Program) (W : World) (t : TypeId) (cs : List Value) : Prop := ∃ ds, TD P t ds ∧ RepsD (fun b => b < W.heap.size) W ds cs ∧ ∀ c ∈ cs, c.oneCell' = true
theorem parts_array {e : TypeId} {k : Nat} {cs : List Value} : ∀ (m i : Nat), (∀ j, i ≤ j → j < i + m → Opened P W e ((cs.drop (j * k)).take k)) → cs.length = (i + m) * k →
    ∃ parts : List (List D), parts.length = m ∧ (∀ p ∈ parts, TD P e p) ∧ RepsD (fun b => b < W.heap.size) W parts.flatten (cs.drop (i * k)) ∧ ∀ c ∈ cs.drop (i * k), c.oneCell' = true
  | 0, i, _, hl => ⟨[], rfl, by simp, by rw [List.drop_of_length_le (by rw [hl]; simp)]; exact repsD_nil, by rw [List.drop_of_length_le (by rw [hl]; simp)]; simp⟩
  | m + 1, i, h, hl => by
    obtain ⟨ds, h1, h2, h3⟩ := h i (Nat.le_refl _) (by omega)
    obtain ⟨parts, q1, q2, q3, q4⟩ := parts_array m (i + 1) (fun j hj hj2 => h j (by omega) (by omega)) (by rw [hl]; congr 1; omega)
    have e1 : cs.drop (i * k) = (cs.drop (i * k)).take k ++ cs.drop ((i + 1) * k) := by
      rw [show (i + 1) * k = i * k + k by rw [Nat.add_mul]; omega, ← List.drop_drop, List.take_append_drop]
    refine ⟨ds :: parts, by simp [q1], fun p hp => ?_, ?_, fun c hc => ?_⟩
    · rcases List.mem_cons.1 hp with rfl | hp
      · exact h1
      · exact q2 p hp
    · rw [e1, List.flatten_cons]; exact repsD_app h2 q3
    · rw [e1] at hc
      rcases List.mem_append.1 hc with hc | hc
      · exact h3 c hc
      · exact q4 c hc
theorem parts_struct {cs : List Value} : ∀ (fs : List Field) (off : Nat), tightF P off fs = some cs.length → (∀ f ∈ fs, Opened P W f.type ((cs.drop f.offset).take (P.cellsOf f.type))) →
    ∃ parts : List (List D), parts.length = fs.length ∧ (∀ (i : Nat) (f : Field) (p : List D), fs[i]? = some f → parts[i]? = some p → TD P f.type p) ∧ RepsD (fun b => b < W.heap.size) W parts.flatten (cs.drop off) ∧ ∀ c ∈ cs.drop off, c.oneCell' = true
  | [], off, ht, _ => by
    unfold tightF at ht; cases ht
    exact ⟨[], rfl, fun i f p h => by simp at h, by rw [List.drop_length]; exact repsD_nil, by rw [List.drop_length]; simp⟩
  | f :: fs, off, ht, h => by
    unfold tightF at ht
    split at ht
    · next ho =>
      have ho := of_decide_eq_true ho
      obtain ⟨ds, h1, h2, h3⟩ := h f (by simp)
      obtain ⟨parts, q1, q2, q3, q4⟩ := parts_struct fs _ ht fun g hg => h g (by simp [hg])
      rw [ho] at h2 h3
      have e1 : cs.drop off = (cs.drop off).take (P.cellsOf f.type) ++ cs.drop (off + P.cellsOf f.type) := by rw [← List.drop_drop, List.take_append_drop]
      refine ⟨ds :: parts, by simp [q1], fun i g p hg hp => ?_, ?_, fun c hc => ?_⟩
      · match i with
        | 0 => simp only [List.getElem?_cons_zero, Option.some.injEq] at hg hp; subst hg; subst hp; exact h1
        | i + 1 => exact q2 i g p (by simpa using hg) (by simpa using hp)
      · rw [e1, List.flatten_cons]; exact repsD_app h2 q3
      · rw [e1] at hc
        rcases List.mem_append.1 hc with hc | hc
        · exact h3 c hc
        · exact q4 c hc
    · cases ht
theorem td_open : ∀ (d : Nat) {t : TypeId}, plainT P d t = true → ∀ {fuel : Nat} {cs : List Value} {x : DataW H × List MemPlace}, DataW.trod enc P W 0 (fun _ => true) true fuel t cs = some x → Opened P W t cs
  | 0, t, hp, _, _, _, _ => by cases hp
  | d + 1, t, hp, fuel, cs, x, h => by
    unfold plainT at hp
    split at hp
    · next hu => obtain ⟨b, rfl, _⟩ := DataW.trod_bool hu h; exact ⟨_, .bool hu b, repsD_one (by unfold RepD; exact ⟨rfl, rfl⟩), fun c hc => by simp at hc; subst hc; rfl⟩
    · next k hu => obtain ⟨n, rfl, _, hw⟩ := DataW.trod_int hu h; exact ⟨_, .int hu n hw, repsD_one (by unfold RepD; exact ⟨rfl, rfl⟩), fun c hc => by simp at hc; subst hc; rfl⟩
    · next hu => obtain ⟨s, rfl, _, hs⟩ := DataW.trod_string hu h; exact ⟨_, .str hu s hs, repsD_one (by unfold RepD; exact ⟨rfl, rfl⟩), fun c hc => by simp at hc; subst hc; rfl⟩
    · next e hu =>
      rcases DataW.trod_slice hu h with ⟨rfl, _⟩ | ⟨a, len, cap, elems, rest, n, _, rfl, _, _, hl, hm, hlen, hel, _, _⟩
      · exact ⟨_, .slice hu [] (by simp) (by simp), repsD_one (by unfold RepD; exact ⟨none, 0, rfl, Nat.le_refl _, Nat.zero_le _, fun _ => ⟨rfl, rfl⟩, by simp only [List.flatten_nil, RepDs]⟩), fun c hc => by simp at hc; subst hc; rfl⟩
      · have each : ∀ i : Nat, ∃ r : List D, i < len → TD P e r ∧ r.length = P.cellsOf e ∧ ∀ j y, r[j]? = some y → ∃ u, W.cell? (a.add (i * P.cellsOf e + j)) = some u ∧ u.oneCell' = true ∧ RepD (fun b => b < W.heap.size) W y u := by
          intro i
          by_cases hi : i < len
          · have h1 := hel i hi
            rw [List.getElem?_eq_getElem (by omega), Option.bind_eq_some_iff] at h1
            obtain ⟨ci, hci, hti⟩ := h1
            obtain ⟨ds, k1, k2, k3⟩ := td_open d hp hti
            obtain ⟨c1, c2⟩ := cells_each hci
            refine ⟨ds, fun _ => ⟨k1, by rw [← k2.1, c1], fun j y hy => ?_⟩⟩
            have hj : j < ci.length := by rw [k2.1]; exact (List.getElem?_eq_some_iff.1 hy).1
            have h5 := c2 j _ (List.getElem?_eq_getElem hj)
            rw [Addr.add_add] at h5
            exact ⟨_, h5, k3 _ (List.getElem_mem hj), k2.2 j y _ hy (List.getElem?_eq_getElem hj)⟩
          · exact ⟨[], fun hh => absurd hh hi⟩
        obtain ⟨g, hg⟩ := Classical.axiomOfChoice each
        have hrl : ((List.range len).map g).length = len := by simp
        have hmem : ∀ r ∈ (List.range len).map g, ∃ i, i < len ∧ g i = r := fun r hr => by
          obtain ⟨i, hi, rfl⟩ := List.mem_map.1 hr
          exact ⟨i, List.mem_range.1 hi, rfl⟩
        have ht := TD.slice hu ((List.range len).map g) (by rw [hrl]; omega) fun r hr => by
          obtain ⟨i, hi, rfl⟩ := hmem r hr
          exact (hg i hi).1
        rw [hrl] at ht
        refine ⟨_, ht, repsD_one ?_, fun c hc => by simp at hc; subst hc; rfl⟩
        unfold RepD
        refine ⟨some a, cap, rfl, hl, hm, fun hh => (by cases hh), RepDs.of _ _ _ fun j c hc => ?_⟩
        obtain ⟨i, r, row, h1, h2, h3, rfl⟩ := flat_uniform (k := P.cellsOf e) (fun r hr => by obtain ⟨i, hi, rfl⟩ := hmem r hr; exact (hg i hi).2.1) hc
        have hi : i < len := by have := (List.getElem?_eq_some_iff.1 h1).1; rw [hrl] at this; exact this
        rw [List.getElem?_map, List.getElem?_range hi] at h1
        cases h1
        obtain ⟨u, h5, h6, h7⟩ := (hg i hi).2.2 r c h2
        refine ⟨a, u, rfl, by rw [Nat.zero_add]; exact h5, ?_, h6, h7⟩
        have := World.block_lt_of_cell? W _ h5
        rw [add_block] at this; exact this
    · next fs hu =>
      rw [Bool.and_eq_true, List.all_eq_true] at hp
      obtain ⟨xs, n, rfl, rfl, hl, hlen, hf⟩ := DataW.trod_struct hu h
      have ht := of_decide_eq_true hp.2
      rw [← hl] at ht
      obtain ⟨parts, q1, q2, q3, q4⟩ := parts_struct (W := W) (cs := cs) fs.toList 0 ht fun f hm => by
        obtain ⟨i, hi⟩ := List.getElem?_of_mem hm
        have h1 := hf i f (by simpa using hi)
        have hlt : i < xs.length := by rw [hlen]; have := (List.getElem?_eq_some_iff.1 hi).1; simpa using this
        rw [List.getElem?_eq_getElem hlt] at h1
        exact td_open d (hp.1 f hm) h1
      exact ⟨_, .struct hu parts q1 q2, q3, q4⟩
    · next n e hu =>
      rw [Bool.and_eq_true] at hp
      obtain ⟨xs, m, rfl, rfl, hl, hlen, hf⟩ := DataW.trod_array hu h
      obtain ⟨parts, q1, q2, q3, q4⟩ := parts_array (P := P) (W := W) (e := e) (k := P.cellsOf e) (cs := cs) n 0 (fun j _ hj => by
        have h1 := hf j (by omega)
        rw [List.getElem?_eq_getElem (by omega)] at h1
        exact td_open d hp.1 h1) (by rw [hl, of_decide_eq_true hp.2, Nat.zero_add])
      rw [Nat.zero_mul, List.drop_zero] at q3 q4
      exact ⟨_, .array hu parts q1 q2, q3, q4⟩
    · cases hp
theorem reps_nil {m : Mp} {S : Nat → Prop} {w : World} : Reps m S w [] [] := by simp only [Reps]
theorem reps_cons {m : Mp} {S : Nat → Prop} {w : World} {a : A} {as' : List A} {v : Value} {r : List Value} (h : Rep m S w a v) (k : Reps m S w as' r) : Reps m S w (a :: as') (v :: r) := by simp only [Reps]; exact ⟨v, r, rfl, h, k⟩
theorem rep_d {m : Mp} {S : Nat → Prop} {w : World} {x : D} {v : Value} (h : RepD S w x v) : Rep m S w (.d x) v := by simp only [Rep]; exact h
/-- A value of one cell; of several. -/
theorem open_one {t : TypeId} {v : Value} {dd : DataW H} {ps : List MemPlace} {base : Nat} {r : Reach} (d : Nat) (hp : plainT P d t = true) (hs : scalarT P t = true) (hv : Value.okWide P W r base t v) (h : DataW.Trod enc P W 0 (fun _ => true) true t v dd ps) : ∃ x, TD P t [x] ∧ RepD (fun b => b < W.heap.size) W x v := by
  obtain ⟨fuel, hf⟩ := h
  obtain ⟨ds, h1, h2, h3⟩ := td_open d hp hf
  cases v with
  | agg cs =>
    exfalso
    have : Cell.okWide P W r base t (.agg cs) := by
      unfold Value.okWide at hv
      unfold scalarT at hs
      split at hv
      · next hu => rw [hu] at hs; cases hs
      · next hu => rw [hu] at hs; cases hs
      · exact hv
    unfold Cell.okWide at this
    unfold scalarT at hs
    split at this <;> simp_all [Cell.ok]
  | _ =>
    simp only [Value.cells] at h2
    match ds, h2 with
    | [x], h2 => exact ⟨x, h1, h2.2 0 x _ rfl rfl⟩
end
section
variable {P : Program} {t : TypeId} {ds : List D}
theorem TD.of_int {k : IntKind} (hu : P.underlying t = some (.int k)) (h : TD P t ds) : ∃ n, ds = [.lit (.int k n)] ∧ (Lit.int k n).wf = true := by
  cases h with
  | int h n hw => rw [hu] at h; cases h; exact ⟨n, rfl, hw⟩
  | _ h => rw [hu] at h; cases h
theorem TD.of_str (hu : P.underlying t = some .string) (h : TD P t ds) : ∃ s, ds = [.lit (.string s)] ∧ s.size ≤ maxLen := by
  cases h with
  | str h s hs => exact ⟨s, rfl, hs⟩
  | _ h => rw [hu] at h; cases h
theorem rows_enc {α : Type} {enc : α → List D} {Q : α → Prop} : ∀ {rows : List (List D)}, (∀ r ∈ rows, ∃ x, r = enc x ∧ Q x) → ∃ l : List α, rows = l.map enc ∧ ∀ x ∈ l, Q x
  | [], _ => ⟨[], rfl, by simp⟩
  | r :: rows, h => by
    obtain ⟨x, rfl, hx⟩ := h r (by simp)
    obtain ⟨l, rfl, hl⟩ := rows_enc (rows := rows) fun r hr => h r (List.mem_cons_of_mem _ hr)
    refine ⟨x :: l, rfl, fun y hy => ?_⟩
    rcases List.mem_cons.1 hy with rfl | hy
    · exact hx
    · exact hl y hy
theorem TD.of_slice {α : Type} {enc : α → List D} {Q : α → Prop} {e : TypeId} (hu : P.underlying t = some (.slice e)) (he : ∀ {r}, TD P e r → ∃ x, r = enc x ∧ Q x) (h : TD P t ds) : ∃ l : List α, ds = [.sl l.length (flatD enc l)] ∧ l.length ≤ maxLen ∧ ∀ x ∈ l, Q x := by
  cases h with
  | slice h rows hn hr =>
    rw [hu] at h; cases h
    obtain ⟨l, rfl, hl⟩ := rows_enc fun r hm => he (hr r hm)
    exact ⟨l, by rw [List.length_map, ← List.flatMap_def]; rfl, by simpa using hn, hl⟩
  | _ h => rw [hu] at h; cases h
def TDs (P : Program) : List Field → List D → Prop
  | [], ds => ds = []
  | f :: fs, ds => ∃ p q, ds = p ++ q ∧ TD P f.type p ∧ TDs P fs q
theorem tds_of : ∀ {fs : List Field} {parts : List (List D)}, parts.length = fs.length → (∀ (i : Nat) (f : Field) (p : List D), fs[i]? = some f → parts[i]? = some p → TD P f.type p) → TDs P fs parts.flatten
  | [], [], _, _ => rfl
  | f :: fs, p :: parts, hl, h => ⟨p, parts.flatten, rfl, h 0 f p rfl rfl, tds_of (by simpa using hl) fun i g q hg hq => h (i + 1) g q (by simpa using hg) (by simpa using hq)⟩
theorem TD.of_struct {fs : Array Field} (hu : P.underlying t = some (.struct fs)) (h : TD P t ds) : TDs P fs.toList ds := by
  cases h with
  | struct h parts hl hp => rw [hu] at h; cases h; exact tds_of hl hp
  | _ h => rw [hu] at h; cases h
end
end Go.Proofs.YtaaooafcijdbmaaDoor.K

namespace Go.Proofs.YtaaooafcijdbmaaDoor
/-- The k lowest bytes of u, the highest first. -/
def beb : Nat → Nat → List UInt8
  | 0, _ => []
  | k + 1, u => UInt8.ofNat (u / 256 ^ k % 256) :: beb k u
theorem beb_length : ∀ (k u : Nat), (beb k u).length = k
  | 0, _ => rfl
  | k + 1, u => by rw [beb, List.length_cons, beb_length k u]
end Go.Proofs.YtaaooafcijdbmaaDoor

namespace Go.Proofs.YtaaooafcijdbmaaDoor.K
open Go.RowKit Go.Lib

theorem elemOT_31 : ElemOK Tryd.prog 31 5 1 1 (.int .u8 0) := ⟨by kernel_rfl, by kernel_rfl, by kernel_rfl, by decide, by decide⟩
theorem grown_eq (l : List UInt8) (m : Nat) : putC (bytesD (List.replicate (l.length + m) 0)) 0 (bytesD l) = bytesD (l ++ List.replicate m 0) := by
  rw [put_bytes0]; simp [Nat.add_sub_cancel_left]
set_option maxRecDepth 20000 in
set_option maxHeartbeats 4000000 in
theorem grown_c (l : List UInt8) (m : Nat) (hl : l.length + m ≤ 1000000000) : GCall Tryd.prog 47 [(.d (.sl l.length (bytesD l))), (.d (.lit (.int .i64 ((m : Nat) : Int))))] [] (.own 0) [(.arr 5 1 ((l ++ List.replicate m 0).length) (bytesD (l ++ List.replicate m 0)))] := by
  refine GCall.of_body (n := 15) (rs := [(.tmp 4)]) Tryd.func47 rfl rfl rfl ?_
  refine AWP.to_ (st' := ⟨[(.d (.sl l.length (bytesD l))), (.d (.lit (.int .i64 ((m : Nat) : Int)))), (.tup []), (.tup []), (.tup []), (.tup []), (.tup []), (.tup []), (.tup []), (.tup []), (.tup []), (.tup []), (.tup []), (.tup []), (.tup [])], [], 0⟩) (by kernel_rfl) ?_
  refine AWP.seq ?_
  refine AWP.text ?_
  refine Walk.yes (val := (.d .nil)) (bl := []) (by kernel_rfl) ((op_move rfl).cast (by kernel_rfl)) ?_
  refine Walk.to_ (st' := ⟨[(.d (.sl l.length (bytesD l))), (.d (.lit (.int .i64 ((m : Nat) : Int)))), (.tup []), (.tup []), (.d .nil), (.tup []), (.tup []), (.tup []), (.tup []), (.tup []), (.tup []), (.tup []), (.tup []), (.tup []), (.tup [])], [], 0⟩) (by kernel_rfl) ?_
  refine Walk.nil ?_
  refine Then.normal ?_
  refine AWP.seq ?_
  refine AWP.text ?_
  refine Walk.yes (val := (.d (.sl l.length (bytesD l)))) (bl := []) (by kernel_rfl) ((op_move rfl).cast (by kernel_rfl)) ?_
  refine Walk.yes (val := (.d (.lit (.int .i64 ((l.length : Nat) : Int))))) (bl := []) (by kernel_rfl) (op_len rfl (e := 5) (by kernel_rfl) (y := (.d (.sl l.length (bytesD l)))) (by kernel_rfl) (ds := (bytesD l)) (off := 0) (by kernel_rfl)) ?_
  refine Walk.yes (val := (.d (.lit (.int .i64 ((m : Nat) : Int))))) (bl := []) (by kernel_rfl) ((op_move rfl).cast (by kernel_rfl)) ?_
  refine Walk.yes (val := (.d (.lit (.int .i64 ((l.length + m : Nat) : Int))))) (bl := []) (by kernel_rfl) (((op_bin rfl (a1 := (.int .i64 ((l.length : Nat) : Int))) (a2 := (.int .i64 ((m : Nat) : Int))) (by kernel_rfl) (by kernel_rfl) (fun _ => hb_add))).cast (lit_i64 (by first | rfl | omega | (simp; done)) (by omega) (by omega))) ?_
  refine Walk.yes (val := (.own 0)) (bl := [(0, (.arr 5 1 ((List.replicate (l.length + m) (0 : UInt8)).length) (bytesD (List.replicate (l.length + m) (0 : UInt8)))))]) (by kernel_rfl) ((op_make rfl elemOT_31 (by kernel_rfl) (kl := .i64) (kc := .i64) (L := ((l.length + m : Nat) : Int)) (C := ((l.length + m : Nat) : Int)) (by kernel_rfl) (by kernel_rfl) (n := (l.length + m)) rfl rfl (by omega) (by kernel_rfl)).castB (bl_one (by simp) (mk_bytes _))) ?_
  refine Walk.yes (val := (.own 0)) (bl := []) (by kernel_rfl) ((op_move rfl).cast (by kernel_rfl)) ?_
  refine Walk.to_ (st' := ⟨[(.d (.sl l.length (bytesD l))), (.d (.lit (.int .i64 ((m : Nat) : Int)))), (.tup []), (.tup []), (.d .nil), (.own 0), (.d (.sl l.length (bytesD l))), (.d (.lit (.int .i64 ((l.length : Nat) : Int)))), (.d (.lit (.int .i64 ((m : Nat) : Int)))), (.d (.lit (.int .i64 ((l.length + m : Nat) : Int)))), (.own 0), (.tup []), (.tup []), (.tup []), (.tup [])], [(.arr 5 1 ((List.replicate (l.length + m) (0 : UInt8)).length) (bytesD (List.replicate (l.length + m) (0 : UInt8))))], 0⟩) (by kernel_rfl) ?_
  refine Walk.nil ?_
  refine Then.normal ?_
  refine AWP.seq ?_
  refine AWP.text ?_
  refine Walk.yes (val := (.own 0)) (bl := []) (by kernel_rfl) ((op_move rfl).cast (by kernel_rfl)) ?_
  refine Walk.yes (val := (.d (.sl l.length (bytesD l)))) (bl := []) (by kernel_rfl) ((op_move rfl).cast (by kernel_rfl)) ?_
  refine Walk.yes (val := (.d (.lit (.int .i64 ((l.length : Nat) : Int))))) (bl := [(0, (.arr 5 1 ((l ++ List.replicate m 0).length) (bytesD (l ++ List.replicate m 0))))]) (by kernel_rfl) ((op_copy rfl (e := 5) (sz := 1) (by kernel_rfl) (yd := (.own 0)) (by kernel_rfl) (id := 0) (off := 0) (dn := ((List.replicate (l.length + m) (0 : UInt8)).length)) (by kernel_rfl) (n := ((List.replicate (l.length + m) (0 : UInt8)).length)) (xs := (bytesD (List.replicate (l.length + m) (0 : UInt8)))) (by kernel_rfl) (y := (.d (.sl l.length (bytesD l)))) (by kernel_rfl) (ds := (bytesD l)) (soff := 0) (k := l.length) (by kernel_rfl) (es := (bytesD l)) (byt_all) (byt_len) (by first | omega | (simp; done) | (simp; omega)) (by first | omega | (simp; done) | (simp; omega)) (by decide)).castB (bl_one (by simp) (grown_eq _ _))) ?_
  refine Walk.to_ (st' := ⟨[(.d (.sl l.length (bytesD l))), (.d (.lit (.int .i64 ((m : Nat) : Int)))), (.tup []), (.tup []), (.d .nil), (.own 0), (.d (.sl l.length (bytesD l))), (.d (.lit (.int .i64 ((l.length : Nat) : Int)))), (.d (.lit (.int .i64 ((m : Nat) : Int)))), (.d (.lit (.int .i64 ((l.length + m : Nat) : Int)))), (.own 0), (.own 0), (.d (.sl l.length (bytesD l))), (.d (.lit (.int .i64 ((l.length : Nat) : Int)))), (.tup [])], [(.arr 5 1 ((l ++ List.replicate m 0).length) (bytesD (l ++ List.replicate m 0)))], 0⟩) (by kernel_rfl) ?_
  refine Walk.nil ?_
  refine Then.normal ?_
  refine AWP.seq ?_
  refine AWP.text ?_
  refine Walk.yes (val := (.own 0)) (bl := []) (by kernel_rfl) ((op_move rfl).cast (by kernel_rfl)) ?_
  refine Walk.yes (val := (.own 0)) (bl := []) (by kernel_rfl) ((op_move rfl).cast (by kernel_rfl)) ?_
  refine Walk.to_ (st' := ⟨[(.d (.sl l.length (bytesD l))), (.d (.lit (.int .i64 ((m : Nat) : Int)))), (.tup []), (.tup []), (.own 0), (.own 0), (.d (.sl l.length (bytesD l))), (.d (.lit (.int .i64 ((l.length : Nat) : Int)))), (.d (.lit (.int .i64 ((m : Nat) : Int)))), (.d (.lit (.int .i64 ((l.length + m : Nat) : Int)))), (.own 0), (.own 0), (.d (.sl l.length (bytesD l))), (.d (.lit (.int .i64 ((l.length : Nat) : Int)))), (.own 0)], [(.arr 5 1 ((l ++ List.replicate m 0).length) (bytesD (l ++ List.replicate m 0)))], 0⟩) (by kernel_rfl) ?_
  refine Walk.nil ?_
  refine Then.normal ?_
  refine AWP.ret ?_
  exact ret_intro [0] [(.own 0)] (by kernel_rfl) (by kernel_rfl) (⟨by kernel_rfl, trivial⟩) (by kernel_rfl) ⟨Nat.le_of_ble_eq_true rfl, rfl⟩
/-- Bytes whose k lowest of u end at place n. -/
def layn (l : List UInt8) (n k u : Nat) : List UInt8 := l.take (n - k) ++ (beb k u ++ l.drop n)
theorem layn_zero (l : List UInt8) (n u : Nat) : layn l n 0 u = l := by simp [layn, beb]
theorem layn_length {l : List UInt8} {n k u : Nat} (h : k ≤ n) (hn : n ≤ l.length) : (layn l n k u).length = l.length := by simp [layn, beb_length]; omega
theorem layn_step {l : List UInt8} {n k u : Nat} (h : k < n) (hn : n ≤ l.length) : (layn l n k u).set (n - 1 - k) (UInt8.ofNat (u / 256 ^ k % 256)) = layn l n (k + 1) u := by
  obtain ⟨m, rfl⟩ : ∃ m, n = m + k + 1 := ⟨n - k - 1, by omega⟩
  unfold layn
  rw [show m + k + 1 - k = m + 1 by omega, show m + k + 1 - (k + 1) = m by omega, show m + k + 1 - 1 - k = m by omega]
  have hlen : (l.take m).length = m := by simp; omega
  have e : l.take (m + 1) = l.take m ++ [l[m]'(by omega)] := by rw [List.take_add_one]; simp [List.getElem?_eq_getElem (show m < l.length by omega)]
  rw [e, List.append_assoc, List.set_append_right _ _ (by omega), hlen, Nat.sub_self]
  rfl
theorem layn_put {l : List UInt8} {n k u : Nat} (h : k < n) (hn : n ≤ l.length) : putC (bytesD (layn l n k u)) ((n - 1 - k) * 1) [byteD (UInt8.ofNat (u / 256 ^ k % 256))] = bytesD (layn l n (k + 1) u) := by
  rw [byt_set' (by rw [layn_length (by omega) hn]; omega), layn_step h hn]
set_option maxRecDepth 20000 in
set_option maxHeartbeats 4000000 in
theorem lay_sub (l : List UInt8) (n : Nat) (wd u : Nat) (hwd : wd ≤ n) (hn : n ≤ l.length) (hl : l.length ≤ 1000000000) (hu : u < 18446744073709551616) : GCall Tryd.prog 48 [(.sub 0 0 n), (.d (.lit (.int .i64 ((wd : Nat) : Int)))), (.d (.lit (.int .u64 ((u : Nat) : Int))))] [(.arr 5 1 l.length (bytesD l))] (.tup []) [(.arr 5 1 l.length (bytesD (layn l n wd u)))] := by
  refine GCall.of_body (n := 25) (rs := []) Tryd.func48 rfl rfl rfl ?_
  refine AWP.to_ (st' := ⟨[(.sub 0 0 n), (.d (.lit (.int .i64 ((wd : Nat) : Int)))), (.d (.lit (.int .u64 ((u : Nat) : Int)))), (.tup []), (.tup []), (.tup []), (.tup []), (.tup []), (.tup []), (.tup []), (.tup []), (.tup []), (.tup []), (.tup []), (.tup []), (.tup []), (.tup []), (.tup []), (.tup []), (.tup []), (.tup []), (.tup []), (.tup []), (.tup []), (.tup [])], [(.arr 5 1 l.length (bytesD l))], 1⟩) (by kernel_rfl) ?_
  refine AWP.seq ?_
  refine AWP.text ?_
  refine Walk.yes (val := (.sub 0 0 n)) (bl := []) (by kernel_rfl) ((op_move rfl).cast (by kernel_rfl)) ?_
  refine Walk.yes (val := (.d (.lit (.int .i64 ((n : Nat) : Int))))) (bl := []) (by kernel_rfl) (op_len rfl (e := 5) (by kernel_rfl) (y := (.sub 0 0 n)) (by kernel_rfl) (ds := (bytesD l)) (off := 0) (by kernel_rfl)) ?_
  refine Walk.yes (val := (.d (.lit (.int .i64 (((n : Nat) : Int) - 1))))) (bl := []) (by kernel_rfl) (((op_bin rfl (a1 := (.int .i64 ((n : Nat) : Int))) (a2 := (.int .i64 1)) (by kernel_rfl) (by kernel_rfl) (fun _ => hb_sub))).cast (lit_i64 (by first | rfl | omega | (simp; done)) (by omega) (by omega))) ?_
  refine Walk.yes (val := (.d (.lit (.int .i64 (((n : Nat) : Int) - 1))))) (bl := []) (by kernel_rfl) ((op_move rfl).cast (by kernel_rfl)) ?_
  refine Walk.to_ (st' := ⟨[(.sub 0 0 n), (.d (.lit (.int .i64 ((wd : Nat) : Int)))), (.d (.lit (.int .u64 ((u : Nat) : Int)))), (.tup []), (.tup []), (.tup []), (.d (.lit (.int .i64 (((n : Nat) : Int) - 1)))), (.sub 0 0 n), (.d (.lit (.int .i64 ((n : Nat) : Int)))), (.d (.lit (.int .i64 (((n : Nat) : Int) - 1)))), (.tup []), (.tup []), (.tup []), (.tup []), (.tup []), (.tup []), (.tup []), (.tup []), (.tup []), (.tup []), (.tup []), (.tup []), (.tup []), (.tup []), (.tup [])], [(.arr 5 1 l.length (bytesD l))], 1⟩) (by kernel_rfl) ?_
  refine Walk.nil ?_
  refine Then.normal ?_
  refine AWP.block ?_
  refine AWP.loopI (α := Nat)
    (fun (x : Nat) => match x with | k => (⟨[(.sub 0 0 n), (.d (.lit (.int .i64 ((wd : Nat) : Int)))), (.d (.lit (.int .u64 ((u / 256 ^ k : Nat) : Int)))), (.tup []), (.tup []), (.tup []), (.d (.lit (.int .i64 (((n : Nat) : Int) - 1 - (k : Int))))), (.sub 0 0 n), (.d (.lit (.int .i64 ((n : Nat) : Int)))), (.d (.lit (.int .i64 (((n : Nat) : Int) - 1)))), .top, .top, .top, .top, .top, .top, .top, .top, .top, .top, .top, .top, .top, .top, .top], [(.arr 5 1 l.length (bytesD (layn l n k u)))], 1⟩ : St))
    (fun (x : Nat) => match x with | k => k ≤ wd)
    (fun (x : Nat) => match x with | k => wd - k)
    0
    (Weak.to' (st' := _) [0] rfl (by kernel_rfl) rfl ⟨Nat.le_of_ble_eq_true rfl, rfl⟩ (⟨ren_arr rfl (by rw [layn_zero]), trivial⟩) (⟨.inr (by kernel_rfl), .inr (by kernel_rfl), .inr (ren_int (by simp)), .inr (by kernel_rfl), .inr (by kernel_rfl), .inr (by kernel_rfl), .inr (ren_int (by simp)), .inr (by kernel_rfl), .inr (by kernel_rfl), .inr (by kernel_rfl), .inl rfl, .inl rfl, .inl rfl, .inl rfl, .inl rfl, .inl rfl, .inl rfl, .inl rfl, .inl rfl, .inl rfl, .inl rfl, .inl rfl, .inl rfl, .inl rfl, .inl rfl, trivial⟩))
    (Nat.zero_le _) ?_
  rintro k n_1 hI_1 ih_1
  dsimp only at hI_1 ih_1 ⊢
  refine AWP.seq ?_
  refine AWP.seq ?_
  refine AWP.text ?_
  refine Walk.yes (val := (.d (.lit (.int .i64 (((n : Nat) : Int) - 1 - (k : Int)))))) (bl := []) (by kernel_rfl) ((op_move rfl).cast (by kernel_rfl)) ?_
  refine Walk.yes (val := (.sub 0 0 n)) (bl := []) (by kernel_rfl) ((op_move rfl).cast (by kernel_rfl)) ?_
  refine Walk.yes (val := (.d (.lit (.int .i64 ((n : Nat) : Int))))) (bl := []) (by kernel_rfl) (op_len rfl (e := 5) (by kernel_rfl) (y := (.sub 0 0 n)) (by kernel_rfl) (ds := (bytesD (layn l n k u))) (off := 0) (by kernel_rfl)) ?_
  refine Walk.yes (val := (.d (.lit (.int .i64 ((wd : Nat) : Int))))) (bl := []) (by kernel_rfl) ((op_move rfl).cast (by kernel_rfl)) ?_
  refine Walk.yes (val := (.d (.lit (.int .i64 (((n : Nat) : Int) - ((wd : Nat) : Int)))))) (bl := []) (by kernel_rfl) (((op_bin rfl (a1 := (.int .i64 ((n : Nat) : Int))) (a2 := (.int .i64 ((wd : Nat) : Int))) (by kernel_rfl) (by kernel_rfl) (fun _ => hb_sub))).cast (lit_i64 (by first | rfl | omega | (simp; done)) (by omega) (by omega))) ?_
  by_cases h1 : (((n : Nat) : Int) - ((wd : Nat) : Int)) ≤ (((n : Nat) : Int) - 1 - (k : Int))
  · refine Walk.yes (val := (.d (.lit (.bool true)))) (bl := []) (by kernel_rfl) (((op_bin rfl (a1 := (.int .i64 (((n : Nat) : Int) - 1 - (k : Int)))) (a2 := (.int .i64 (((n : Nat) : Int) - ((wd : Nat) : Int)))) (by kernel_rfl) (by kernel_rfl) (fun _ => hb_geq))).cast (lit_T (by have := (h1); omega))) ?_
    refine Walk.to_ (st' := ⟨[(.sub 0 0 n), (.d (.lit (.int .i64 ((wd : Nat) : Int)))), (.d (.lit (.int .u64 ((u / 256 ^ k : Nat) : Int)))), (.tup []), (.tup []), (.tup []), (.d (.lit (.int .i64 (((n : Nat) : Int) - 1 - (k : Int))))), (.sub 0 0 n), (.d (.lit (.int .i64 ((n : Nat) : Int)))), (.d (.lit (.int .i64 (((n : Nat) : Int) - 1)))), (.d (.lit (.int .i64 (((n : Nat) : Int) - 1 - (k : Int))))), (.sub 0 0 n), (.d (.lit (.int .i64 ((n : Nat) : Int)))), (.d (.lit (.int .i64 ((wd : Nat) : Int)))), (.d (.lit (.int .i64 (((n : Nat) : Int) - ((wd : Nat) : Int))))), (.d (.lit (.bool true))), .top, .top, .top, .top, .top, .top, .top, .top, .top], [(.arr 5 1 l.length (bytesD (layn l n k u)))], 1⟩) (by kernel_rfl) ?_
    refine Walk.nil ?_
    refine Then.normal ?_
    refine AWP.if_ true (by kernel_rfl) ?_
    refine AWP.skip ?_
    refine Then.normal ?_
    refine AWP.seq ?_
    refine AWP.block ?_
    refine AWP.seq ?_
    refine AWP.text ?_
    refine Walk.yes (val := (.sub 0 0 n)) (bl := []) (by kernel_rfl) ((op_move rfl).cast (by kernel_rfl)) ?_
    refine Walk.yes (val := (.d (.lit (.int .i64 (((n : Nat) : Int) - 1 - (k : Int)))))) (bl := []) (by kernel_rfl) ((op_move rfl).cast (by kernel_rfl)) ?_
    refine Walk.yes (val := (.d (.lit (.int .u64 ((u / 256 ^ k : Nat) : Int))))) (bl := []) (by kernel_rfl) ((op_move rfl).cast (by kernel_rfl)) ?_
    refine Walk.yes (val := (.d (.lit (.int .u8 (((UInt8.ofNat (u / 256 ^ k % 256)).toNat : Nat) : Int))))) (bl := []) (by kernel_rfl) ((op_convert rfl (a1 := (.int .u64 ((u / 256 ^ k : Nat) : Int))) (by kernel_rfl) (run_conv (ds := .int .u64) (k' := .u8) (by kernel_rfl) (by kernel_rfl))).cast (lit_u8 (by rw [byte_nat]; rfl))) ?_
    refine Walk.yes (val := (.loc 0 ((n - 1 - k) * 1))) (bl := []) (by kernel_rfl) ((op_iaddr rfl (y := (.sub 0 0 n)) (by kernel_rfl) (ds := (bytesD (layn l n k u))) (off := 0) (n := n) (by kernel_rfl) (e := 5) (sz := 1) (by kernel_rfl) (k := .i64) (iv := (((n : Nat) : Int) - 1 - (k : Int))) (by kernel_rfl) (i := n - 1 - k) (by omega) (by omega)).cast (by simp only [elemA, Nat.zero_add])) ?_
    refine Walk.yes (val := (.tup [])) (bl := [(0, (.arr 5 1 l.length (bytesD (layn l n (k + 1) u))))]) (by kernel_rfl) ((op_storeRow rfl (id := 0) (off := ((n - 1 - k) * 1)) (e := 5) (sz := 1) (n := l.length) (ds := (bytesD (layn l n k u))) (ys := [(.d (.lit (.int .u8 (((UInt8.ofNat (u / 256 ^ k % 256)).toNat : Nat) : Int))))]) (es := [(.lit (.int .u8 (((UInt8.ofNat (u / 256 ^ k % 256)).toNat : Nat) : Int)))]) (by kernel_rfl) (by kernel_rfl) (v := (.d (.lit (.int .u8 (((UInt8.ofNat (u / 256 ^ k % 256)).toNat : Nat) : Int))))) (by kernel_rfl) (by kernel_rfl) (by kernel_rfl) (by kernel_rfl) (byt_fit (l := layn l n k u) (i := n - 1 - k) (by rw [layn_length (by omega) (by omega)]; omega))).castB (bl_one rfl (layn_put (by omega) (by omega)))) ?_
    refine Walk.to_ (st' := ⟨[(.sub 0 0 n), (.d (.lit (.int .i64 ((wd : Nat) : Int)))), (.d (.lit (.int .u64 ((u / 256 ^ k : Nat) : Int)))), (.tup []), (.tup []), (.tup []), (.d (.lit (.int .i64 (((n : Nat) : Int) - 1 - (k : Int))))), (.sub 0 0 n), (.d (.lit (.int .i64 ((n : Nat) : Int)))), (.d (.lit (.int .i64 (((n : Nat) : Int) - 1)))), (.d (.lit (.int .i64 (((n : Nat) : Int) - 1 - (k : Int))))), (.sub 0 0 n), (.d (.lit (.int .i64 ((n : Nat) : Int)))), (.d (.lit (.int .i64 ((wd : Nat) : Int)))), (.d (.lit (.int .i64 (((n : Nat) : Int) - ((wd : Nat) : Int))))), (.d (.lit (.bool true))), .top, .top, (.sub 0 0 n), (.d (.lit (.int .i64 (((n : Nat) : Int) - 1 - (k : Int))))), (.d (.lit (.int .u64 ((u / 256 ^ k : Nat) : Int)))), (.d (.lit (.int .u8 (((UInt8.ofNat (u / 256 ^ k % 256)).toNat : Nat) : Int)))), (.loc 0 ((n - 1 - k) * 1)), .top, .top], [(.arr 5 1 l.length (bytesD (layn l n (k + 1) u)))], 1⟩) (by kernel_rfl) ?_
    refine Walk.nil ?_
    refine Then.normal ?_
    refine AWP.text ?_
    refine Walk.yes (val := (.d (.lit (.int .u64 ((u / 256 ^ k : Nat) : Int))))) (bl := []) (by kernel_rfl) ((op_move rfl).cast (by kernel_rfl)) ?_
    refine Walk.yes (val := (.d (.lit (.int .u64 ((u / 256 ^ (k + 1) : Nat) : Int))))) (bl := []) (by kernel_rfl) (((op_bin rfl (a1 := (.int .u64 ((u / 256 ^ k : Nat) : Int))) (a2 := (.int .u64 8)) (by kernel_rfl) (by kernel_rfl) (fun _ => hb_shr (n := 8) (by decide) rfl))).cast (lit_shr (shr8 u k))) ?_
    refine Walk.yes (val := (.d (.lit (.int .u64 ((u / 256 ^ (k + 1) : Nat) : Int))))) (bl := []) (by kernel_rfl) ((op_move rfl).cast (by kernel_rfl)) ?_
    refine Walk.to_ (st' := ⟨[(.sub 0 0 n), (.d (.lit (.int .i64 ((wd : Nat) : Int)))), (.d (.lit (.int .u64 ((u / 256 ^ (k + 1) : Nat) : Int)))), (.tup []), (.tup []), (.tup []), (.d (.lit (.int .i64 (((n : Nat) : Int) - 1 - (k : Int))))), (.sub 0 0 n), (.d (.lit (.int .i64 ((n : Nat) : Int)))), (.d (.lit (.int .i64 (((n : Nat) : Int) - 1)))), (.d (.lit (.int .i64 (((n : Nat) : Int) - 1 - (k : Int))))), (.sub 0 0 n), (.d (.lit (.int .i64 ((n : Nat) : Int)))), (.d (.lit (.int .i64 ((wd : Nat) : Int)))), (.d (.lit (.int .i64 (((n : Nat) : Int) - ((wd : Nat) : Int))))), (.d (.lit (.bool true))), .top, .top, (.sub 0 0 n), (.d (.lit (.int .i64 (((n : Nat) : Int) - 1 - (k : Int))))), (.d (.lit (.int .u64 ((u / 256 ^ k : Nat) : Int)))), (.d (.lit (.int .u8 (((UInt8.ofNat (u / 256 ^ k % 256)).toNat : Nat) : Int)))), (.loc 0 ((n - 1 - k) * 1)), (.d (.lit (.int .u64 ((u / 256 ^ k : Nat) : Int)))), (.d (.lit (.int .u64 ((u / 256 ^ (k + 1) : Nat) : Int))))], [(.arr 5 1 l.length (bytesD (layn l n (k + 1) u)))], 1⟩) (by kernel_rfl) ?_
    refine Walk.nil ?_
    refine InBlock.normal ?_
    refine Then.normal ?_
    refine AWP.text ?_
    refine Walk.yes (val := (.d (.lit (.int .i64 (((n : Nat) : Int) - 1 - (k : Int)))))) (bl := []) (by kernel_rfl) ((op_move rfl).cast (by kernel_rfl)) ?_
    refine Walk.yes (val := (.d (.lit (.int .i64 ((((n : Nat) : Int) - 1 - (k : Int)) - 1))))) (bl := []) (by kernel_rfl) (((op_bin rfl (a1 := (.int .i64 (((n : Nat) : Int) - 1 - (k : Int)))) (a2 := (.int .i64 1)) (by kernel_rfl) (by kernel_rfl) (fun _ => hb_sub))).cast (lit_i64 (by first | rfl | omega | (simp; done)) (by omega) (by omega))) ?_
    refine Walk.yes (val := (.d (.lit (.int .i64 ((((n : Nat) : Int) - 1 - (k : Int)) - 1))))) (bl := []) (by kernel_rfl) ((op_move rfl).cast (by kernel_rfl)) ?_
    refine Walk.to_ (st' := ⟨[(.sub 0 0 n), (.d (.lit (.int .i64 ((wd : Nat) : Int)))), (.d (.lit (.int .u64 ((u / 256 ^ (k + 1) : Nat) : Int)))), (.tup []), (.tup []), (.tup []), (.d (.lit (.int .i64 ((((n : Nat) : Int) - 1 - (k : Int)) - 1)))), (.sub 0 0 n), (.d (.lit (.int .i64 ((n : Nat) : Int)))), (.d (.lit (.int .i64 (((n : Nat) : Int) - 1)))), (.d (.lit (.int .i64 (((n : Nat) : Int) - 1 - (k : Int))))), (.sub 0 0 n), (.d (.lit (.int .i64 ((n : Nat) : Int)))), (.d (.lit (.int .i64 ((wd : Nat) : Int)))), (.d (.lit (.int .i64 (((n : Nat) : Int) - ((wd : Nat) : Int))))), (.d (.lit (.bool true))), (.d (.lit (.int .i64 (((n : Nat) : Int) - 1 - (k : Int))))), (.d (.lit (.int .i64 ((((n : Nat) : Int) - 1 - (k : Int)) - 1)))), (.sub 0 0 n), (.d (.lit (.int .i64 (((n : Nat) : Int) - 1 - (k : Int))))), (.d (.lit (.int .u64 ((u / 256 ^ k : Nat) : Int)))), (.d (.lit (.int .u8 (((UInt8.ofNat (u / 256 ^ k % 256)).toNat : Nat) : Int)))), (.loc 0 ((n - 1 - k) * 1)), (.d (.lit (.int .u64 ((u / 256 ^ k : Nat) : Int)))), (.d (.lit (.int .u64 ((u / 256 ^ (k + 1) : Nat) : Int))))], [(.arr 5 1 l.length (bytesD (layn l n (k + 1) u)))], 1⟩) (by kernel_rfl) ?_
    refine Walk.nil ?_
    refine RoundK.normal ?_
    exact Rounds.weak (Weak.to' (st' := ⟨[(.sub 0 0 n), (.d (.lit (.int .i64 ((wd : Nat) : Int)))), (.d (.lit (.int .u64 ((u / 256 ^ (k + 1) : Nat) : Int)))), (.tup []), (.tup []), (.tup []), (.d (.lit (.int .i64 (((n : Nat) : Int) - 1 - ((k + 1) : Int))))), (.sub 0 0 n), (.d (.lit (.int .i64 ((n : Nat) : Int)))), (.d (.lit (.int .i64 (((n : Nat) : Int) - 1)))), .top, .top, .top, .top, .top, .top, .top, .top, .top, .top, .top, .top, .top, .top, .top], [(.arr 5 1 l.length (bytesD (layn l n (k + 1) u)))], 1⟩) [0] rfl (by kernel_rfl) rfl ⟨Nat.le_of_ble_eq_true rfl, rfl⟩ (⟨by first | rfl | exact ren_arr (by simp) (by simp [flatD_append]), trivial⟩) (⟨.inr (by kernel_rfl), .inr (by kernel_rfl), .inr (by kernel_rfl), .inr (by kernel_rfl), .inr (by kernel_rfl), .inr (by kernel_rfl), .inr (by first | rfl | exact ren_int (by first | rfl | omega | (simp; done)) | exact ren_eq (by simp)), .inr (by kernel_rfl), .inr (by kernel_rfl), .inr (by kernel_rfl), .inl rfl, .inl rfl, .inl rfl, .inl rfl, .inl rfl, .inl rfl, .inl rfl, .inl rfl, .inl rfl, .inl rfl, .inl rfl, .inl rfl, .inl rfl, .inl rfl, .inl rfl, trivial⟩)) (ih_1 (k + 1) (by omega) (by first | omega | (dsimp only; omega)))
  · refine Walk.yes (val := (.d (.lit (.bool false)))) (bl := []) (by kernel_rfl) (((op_bin rfl (a1 := (.int .i64 (((n : Nat) : Int) - 1 - (k : Int)))) (a2 := (.int .i64 (((n : Nat) : Int) - ((wd : Nat) : Int)))) (by kernel_rfl) (by kernel_rfl) (fun _ => hb_geq))).cast (lit_F (by have := (h1); omega))) ?_
    refine Walk.to_ (st' := ⟨[(.sub 0 0 n), (.d (.lit (.int .i64 ((wd : Nat) : Int)))), (.d (.lit (.int .u64 ((u / 256 ^ k : Nat) : Int)))), (.tup []), (.tup []), (.tup []), (.d (.lit (.int .i64 (((n : Nat) : Int) - 1 - (k : Int))))), (.sub 0 0 n), (.d (.lit (.int .i64 ((n : Nat) : Int)))), (.d (.lit (.int .i64 (((n : Nat) : Int) - 1)))), (.d (.lit (.int .i64 (((n : Nat) : Int) - 1 - (k : Int))))), (.sub 0 0 n), (.d (.lit (.int .i64 ((n : Nat) : Int)))), (.d (.lit (.int .i64 ((wd : Nat) : Int)))), (.d (.lit (.int .i64 (((n : Nat) : Int) - ((wd : Nat) : Int))))), (.d (.lit (.bool false))), .top, .top, .top, .top, .top, .top, .top, .top, .top], [(.arr 5 1 l.length (bytesD (layn l n k u)))], 1⟩) (by kernel_rfl) ?_
    refine Walk.nil ?_
    refine Then.normal ?_
    refine AWP.if_ false (by kernel_rfl) ?_
    refine AWP.exit ?_
    refine Then.exit ?_
    refine RoundK.exit ?_
    refine InBlock.same ?_
    exact ret_introN [0] [] (by kernel_rfl) (by kernel_rfl) (by have hk : k = wd := (by omega); subst hk; exact ⟨rfl, trivial⟩) (by kernel_rfl) ⟨Nat.le_of_ble_eq_true rfl, rfl⟩
end Go.Proofs.YtaaooafcijdbmaaDoor.K

namespace Go.Proofs.YtaaooafcijdbmaaDoor.K
open Go.RowKit Go.Lib

/-- Short names for what stands in states. -/
abbrev A.i (n : Int) : A := .d (.lit (.int .i64 n))
abbrev A.y (b : UInt8) : A := .d (byteD b)
abbrev A.b (b : Bool) : A := .d (.lit (.bool b))
/-! ### what models are made of -/
/-- An element, by a whole number. -/
def geti {α : Type} (l : List α) (i : Int) : Option α := if 0 ≤ i then l[i.toNat]? else none
/-- Two lists side by side, if they are not too long. -/
def app {α : Type} (l r : List α) : Option (List α) := if l.length + r.length ≤ 1000000000 then some (l ++ r) else none
/-- The part from a up to b. -/
def cut {α : Type} (l : List α) (a b : Int) : Option (List α) := if 0 ≤ a ∧ a ≤ b ∧ b ≤ (l.length : Int) then some ((l.drop a.toNat).take (b.toNat - a.toNat)) else none
/-- r laid over the begin of l. -/
def cpy {α : Type} (l r : List α) : Option (List α) := if r.length ≤ l.length then some (r ++ l.drop r.length) else none
def mkl {α : Type} (n : Int) (z : α) : Option (List α) := if 0 ≤ n ∧ n ≤ 1000000000 then some (List.replicate n.toNat z) else none
def mkc {α : Type} (n c : Int) (z : α) : Option (List α) := if 0 ≤ n ∧ n ≤ c ∧ c ≤ 1000000000 then some (List.replicate n.toNat z) else none
def chk {α : Type} (p : Prop) [Decidable p] (x : Option α) : Option α := if p then x else none
def toS (l : List UInt8) : ByteArray := ⟨l.toArray⟩
abbrev A.s (l : List UInt8) : A := .d (.lit (.string (toS l)))
abbrev A.l {α : Type} (enc : α → List D) (l : List α) : A := .d (.sl l.length (flatD enc l))
def toU8 (n : Int) : UInt8 := UInt8.ofNat (n % 256).toNat
section
variable {α β : Type} {r : β}
theorem bnd {a : Option α} {f : α → Option β} (h : Option.bind a f = some r) : ∃ x, a = some x ∧ f x = some r := by
  cases a with
  | none => cases h
  | some x => exact ⟨x, rfl, h⟩
theorem cT {b : Bool} {x y : Option β} (hb : b = true) (h : cond b x y = some r) : x = some r := by rw [hb] at h; exact h
theorem cF {b : Bool} {x y : Option β} (hb : b = false) (h : cond b x y = some r) : y = some r := by rw [hb] at h; exact h
theorem tf_ (b : Bool) : b = true ∨ b = false := by cases b <;> simp
theorem chk_some {p : Prop} [Decidable p] {x : Option β} (h : chk p x = some r) : p ∧ x = some r := by
  unfold chk at h
  split at h
  · exact ⟨‹_›, h⟩
  · cases h
variable {l s : List α} {x : α} {i a b n c : Int}
theorem geti_some (h : geti l i = some x) : i = (i.toNat : Int) ∧ l[i.toNat]? = some x := by
  unfold geti at h
  split at h
  · exact ⟨by omega, h⟩
  · cases h
theorem getlt {k : Nat} (h : l[k]? = some x) : k < l.length := (List.getElem?_eq_some_iff.1 h).1
theorem app_some {x : List α} (h : app l s = some x) : x = l ++ s ∧ l.length + s.length ≤ 1000000000 := by
  unfold app at h
  split at h
  · cases h; exact ⟨rfl, ‹_›⟩
  · cases h
theorem cut_some {x : List α} (h : cut l a b = some x) : a = (a.toNat : Int) ∧ b = (b.toNat : Int) ∧ a.toNat ≤ b.toNat ∧ b.toNat ≤ l.length ∧ x = (l.drop a.toNat).take (b.toNat - a.toNat) := by
  unfold cut at h
  split at h
  · cases h; refine ⟨by omega, by omega, by omega, by omega, rfl⟩
  · cases h
theorem cpy_some {x : List α} (h : cpy l s = some x) : x = s ++ l.drop s.length ∧ s.length ≤ l.length := by
  unfold cpy at h
  split at h
  · cases h; exact ⟨rfl, ‹_›⟩
  · cases h
theorem mk_some {z : α} {x : List α} (h : mkl n z = some x) : n = (n.toNat : Int) ∧ n.toNat ≤ 1000000000 ∧ x = List.replicate n.toNat z := by
  unfold mkl at h
  split at h
  · cases h; exact ⟨by omega, by omega, rfl⟩
  · cases h
theorem mkc_some {z : α} {x : List α} (h : mkc n c z = some x) : n = (n.toNat : Int) ∧ c = (c.toNat : Int) ∧ n.toNat ≤ c.toNat ∧ c.toNat ≤ 1000000000 ∧ x = List.replicate n.toNat z := by
  unfold mkc at h
  split at h
  · cases h; exact ⟨by omega, by omega, by omega, by omega, rfl⟩
  · cases h
theorem nil_app {l r : List α} (hm : (Option.bind (app [] l) fun a => some a) = some r) (h : l = []) : [] = r := by
  subst h
  obtain ⟨x, hx, hm⟩ := bnd hm
  cases hm
  exact (app_some hx).1.symm
theorem sh_le {q : Int} {n : Nat} (h : q ≤ (n : Int)) : q.toNat ≤ n := by omega
theorem sh_eq {q : Int} (h : 0 ≤ q) : q = (q.toNat : Int) := by omega
end
theorem str_max {l : List UInt8} (h : l.length ≤ 1000000000) : (toS l).size ≤ maxLen := by
  show l.length ≤ maxLen
  unfold maxLen; omega
theorem app_bytes {n k by_ : Nat} (h : n + k ≤ 1000000000) (hb : by_ ≤ 140000) : (n + k) * by_ ≤ 140737488355328 := by
  have := Nat.mul_le_mul h hb; omega
theorem app_str {n : Nat} {s : List UInt8} (h : n + s.length ≤ 1000000000) : n + (toS s).size ≤ 140737488355328 := by
  show n + s.length ≤ _
  omega

/-! ### typed data as cells -/
def encI (k : IntKind) (n : Int) : List D := [.lit (.int k n)]
def encU8 (b : UInt8) : List D := [byteD b]
def encS (l : List UInt8) : List D := [.lit (.string (toS l))]
def encL {α : Type} (enc : α → List D) (l : List α) : List D := [.sl l.length (flatD enc l)]
theorem encI_len {k : IntKind} (n : Int) : (encI k n).length = 1 := rfl
theorem encU8_len (b : UInt8) : (encU8 b).length = 1 := rfl
theorem encU8_plain (b : UInt8) : ∀ d ∈ encU8 b, d.Plain := by simp [encU8, byteD, D.Plain]
theorem flatU8 (l : List UInt8) : flatD encU8 l = bytesD l := by
  induction l with
  | nil => rfl
  | cons x l ih => rw [flatD_cons, ih]; rfl
theorem flatU8_take {l : List UInt8} : ((flatD encU8 l).drop 0).take l.length = bytesD l := by rw [flatU8]; exact byt_all'
theorem flat_plain {α : Type} {enc : α → List D} (h : ∀ a, ∀ d ∈ enc a, d.Plain) {e sz n : Nat} {l : List α} : (Blk.arr e sz n (flatD enc l)).Plain := by
  show ∀ x ∈ flatD enc l, x.Plain
  intro x hx
  obtain ⟨a, _, h2⟩ := List.mem_flatMap.1 hx
  exact h a x h2
theorem plain_nil : ∀ b ∈ ([] : List Blk), b.Plain := fun b hb => by cases hb
theorem plain_cons {b : Blk} {l : List Blk} (h : b.Plain) (hl : ∀ b ∈ l, b.Plain) : ∀ c ∈ b :: l, c.Plain := fun c hc => by
  rcases List.mem_cons.1 hc with rfl | hc
  · exact h
  · exact hl c hc
theorem lit_tf {b c : Bool} (h : b = c) : A.d (.lit (.bool b)) = .d (.lit (.bool c)) := by rw [h]
theorem lit_str {a b : ByteArray} (h : a = b) : A.d (.lit (.string a)) = .d (.lit (.string b)) := by rw [h]
theorem toS_inj {a b : List UInt8} : toS a = toS b ↔ a = b := by simp [toS]
theorem toS_app (a b : List UInt8) : toS a ++ toS b = toS (a ++ b) := by
  ext1; simp [toS]
theorem toS_cut {l x : List UInt8} {a b : Nat} (h : x = (l.drop a).take (b - a)) : (toS l).extract a b = toS x := by
  subst h
  ext1
  rw [ByteArray.data_extract]
  apply Array.ext'
  rw [Array.toList_extract, List.extract_eq_take_drop]; rfl
theorem u8w (n : Int) : IntKind.u8.wrap n = ((toU8 n).toNat : Int) := by
  have h : (UInt8.ofNat (n % 256).toNat).toNat = (n % 256).toNat % 256 := UInt8.toNat_ofNat
  unfold toU8
  rw [h, K.wrap_u8]
  omega
section
variable {α : Type} {enc : α → List D} {sz : Nat} {l : List α} {i k : Nat} {x y : α} {cs : List D}
theorem flat_split (h : ∀ a, (enc a).length = sz) (hx : l[i]? = some x) : flatD enc l = flatD enc (l.take i) ++ (enc x ++ flatD enc (l.drop (i + 1))) ∧ (flatD enc (l.take i)).length = i * sz := by
  have hi := getlt hx
  have e : l = l.take i ++ (x :: l.drop (i + 1)) := by
    conv => lhs; rw [← List.take_append_drop i l, List.drop_eq_getElem_cons hi]
    rw [(List.getElem?_eq_some_iff.1 hx).2]
  refine ⟨?_, by rw [flatD_length h, List.length_take, Nat.min_eq_left (by omega)]⟩
  conv => lhs; rw [e]
  rw [flatD_append, flatD_cons]
theorem flat_fitk (h : ∀ a, (enc a).length = sz) (hi : i < l.length) (hk : k + cs.length ≤ sz) : i * sz + k + cs.length ≤ (flatD enc l).length := by
  rw [flatD_length h]
  have := Nat.mul_le_mul_right sz (show i + 1 ≤ l.length from hi)
  rw [Nat.add_mul] at this; omega
theorem flat_setk (h : ∀ a, (enc a).length = sz) (hx : l[i]? = some x) (hy : putC (enc x) k cs = enc y) (hk : k + cs.length ≤ sz) : putC (flatD enc l) (i * sz + k) cs = flatD enc (l.set i y) := by
  obtain ⟨e, hl⟩ := flat_split h hx
  have hi := getlt hx
  have e2 : l.set i y = l.take i ++ (y :: l.drop (i + 1)) := by rw [List.set_eq_take_append_cons_drop, if_pos hi]
  rw [e2, flatD_append, flatD_cons, ← hy, e]
  have hxl := h x
  generalize flatD enc (l.take i) = a at hl ⊢
  generalize flatD enc (l.drop (i + 1)) = b
  unfold putC
  rw [List.take_append, List.drop_append, List.take_of_length_le (show a.length ≤ i * sz + k by omega), List.drop_of_length_le (show a.length ≤ i * sz + k + cs.length by omega), List.nil_append, hl]
  rw [show i * sz + k - i * sz = k by omega, show i * sz + k + cs.length - i * sz = k + cs.length by omega, List.take_append_of_le_length (by omega), List.drop_append_of_le_length (by omega)]
  simp only [List.append_assoc]
theorem flat_rep {zs : List D} {n : Nat} (h : zs = enc x) : (List.replicate n zs).flatten = flatD enc (List.replicate n x) := by
  subst h
  rw [flatD, List.flatMap, List.map_replicate]
theorem flat_cut (h : ∀ a, (enc a).length = sz) {a b : Nat} : ((flatD enc l).drop (a * sz)).take ((b - a) * sz) = flatD enc ((l.drop a).take (b - a)) := by
  rw [flat_dropL h, flat_take h]
variable {r z : List α}
theorem cpy_len (e : z = r ++ l.drop r.length) (h : r.length ≤ l.length) : l.length = z.length := by rw [e]; simp; omega
theorem cpy_put (h : ∀ a, (enc a).length = sz) (hl : r.length ≤ l.length) : putC (flatD enc l) 0 (flatD enc r) = flatD enc (r ++ l.drop r.length) := by
  unfold putC
  rw [flatD_append, List.take_zero, List.nil_append, Nat.zero_add, flatD_length h, flat_dropL h]
theorem cpy_fit (h : ∀ a, (enc a).length = sz) (hl : r.length ≤ l.length) : 0 + (flatD enc r).length ≤ (flatD enc l).length := by
  rw [flatD_length h, flatD_length h]
  have := Nat.mul_le_mul_right sz hl; omega
end
theorem wrap_of_u8 {k : IntKind} (hk : k ≠ .i8) (b : UInt8) : k.wrap ((b.toNat : Nat) : Int) = ((b.toNat : Nat) : Int) := by
  have := b.toNat_lt
  cases k <;> first | exact absurd rfl hk | (simp [IntKind.wrap, IntKind.bits, IntKind.signed]; omega)
end Go.Proofs.YtaaooafcijdbmaaDoor.K

namespace Go.Proofs.YtaaooafcijdbmaaDoor.K
open Go.RowKit Go.Lib

section
variable {P : Program} {K : Exit → St → Prop} {b c : Code} {st : St}
/-- Ways that meet: what is behind is walked once. -/
theorem AWP.cutJ {α : Type} (S : α → St) (I : α → Prop) (hb : ∀ x, I x → AWP P K b (S x)) (h : (∀ x, I x → AWP P K b (S x)) → AWP P K (.seq c b) st) : AWP P K (.seq c b) st := h hb
theorem Rounds.to_ {n : Nat} {st' : St} (e : st = st') (h : Rounds P K c n st') : Rounds P K c n st := e ▸ h
end
/-- Own rows are frozen; nil stays nil. -/
def Blk.viewN (H : List Blk) (vids : List Nat) : Blk → Blk
  | .box xs => .box (A.views H vids xs)
  | b => b
def frzN (H : List Blk) (vids : List Nat) : List Blk → Nat → List Blk
  | [], _ => []
  | b :: l, k => (match inB vids k with | true => b.frz | false => b.viewN H vids) :: frzN H vids l (k + 1)
theorem frzN_get {H : List Blk} {vids : List Nat} : ∀ (l : List Blk) (k j : Nat), (frzN H vids l k).getD j .unborn = if (k + j) ∈ vids then (l.getD j .unborn).frz else (l.getD j .unborn).viewN H vids
  | [], k, j => by simp only [frzN, List.getD_nil]; split <;> rfl
  | b :: l, k, 0 => by
    simp only [frzN, List.getD_cons_zero, Nat.add_zero]
    cases h : inB vids k with
    | true => rw [if_pos (inB_iff.1 h)]
    | false => rw [if_neg (fun hm => by rw [inB_iff.2 hm] at h; cases h)]
  | b :: l, k, j + 1 => by
    simp only [frzN, List.getD_cons_succ]
    rw [frzN_get l (k + 1) j, show k + 1 + j = k + (j + 1) by omega]
theorem Weak.frz {st : St} (vids : List Nat) : Weak st ⟨A.views st.H vids st.env, frzN st.H vids st.H 0, st.k⟩ := by
  intro cx m S a w hs
  have hf := hs.hold.freeze (vids := vids) (H' := putB st.H (vids.map fun id => (id, (st.H.getD id .unborn).frz))) fun k => by
    rw [getD_putB, lastB_frz]
    by_cases hk : k ∈ vids <;> simp [hk]
  have hle := fzm_le hs.hold vids
  refine ⟨fzm m st.H vids, SV' m S vids, ⟨⟨hf.os, hf.tape, hf.output, hf.size, hf.old, hf.s0, hf.s, hf.pl, hf.apart, fun j => ?_, hf.le⟩, Reps.mono hle (fun _ h => h) (Keeps.refl _ w) _ _ (Reps.view hs.hold _ _ hs.env), hs.df, hs.pre⟩⟩
  have hj := hf.ok j
  rw [getD_putB, lastB_frz] at hj
  simp only [] at hj ⊢
  rw [frzN_get, Nat.zero_add]
  by_cases hk : j ∈ vids
  · rw [if_pos hk] at hj ⊢; exact hj
  · rw [if_neg hk] at hj ⊢
    simp only [Option.getD_none] at hj
    cases hb : st.H.getD j .unborn with
    | box xs =>
      rw [hb] at hj
      obtain ⟨b, cells, T, k1, k2, k3, k4, k5⟩ := hj
      have hok := hs.hold.ok j
      rw [hb] at hok
      obtain ⟨b0, cells0, T0, j1, j2, j3, _⟩ := hok
      have hi : inB vids j = false := by
        cases hi : inB vids j with
        | false => rfl
        | true => exact absurd (inB_iff.1 hi) hk
      have e1 : m j = some (.box b) := by simpa only [fzm, hi] using k1
      rw [j1] at e1; cases e1
      rw [j2] at k2; cases k2
      exact ⟨b, cells, T, k1, j2, Reps.mono hle (fun _ h => h) (Keeps.refl _ w) _ _ (Reps.view hs.hold _ _ j3), k4, k5⟩
    | unborn => rw [hb] at hj; exact hj
    | gone => rw [hb] at hj; exact hj
    | arr e sz n xs => rw [hb] at hj; exact hj
    | fro e sz n xs => rw [hb] at hj; exact hj

/-- Slot by slot: nothing known, the same under other names, or nil as an empty slice. -/
def wkM (ids : List Nat) : List A → List A → Prop
  | [], [] => True
  | x :: xs, y :: ys => (x = .top ∨ x.ren ids = some y ∨ x.ren ids = some y.nn) ∧ wkM ids xs ys
  | _, _ => False
theorem wkM_reps {ids : List Nat} {m : Mp} {S : Nat → Prop} {w : World} : ∀ {xs ys : List A} {vs : List Value}, wkM ids xs ys → Reps m S w ys vs → Reps (via ids m) S w xs vs
  | [], [], vs, _, h => by simp only [Reps] at h ⊢; exact h
  | x :: xs, y :: ys, vs, hw, h => by
    simp only [Reps] at h ⊢
    obtain ⟨v, r, rfl, h1, h2⟩ := h
    refine ⟨v, r, rfl, ?_, wkM_reps hw.2 h2⟩
    rcases hw.1 with rfl | he | he
    · simp only [Rep]
    · exact (Rep.via x y v he).2 h1
    · exact (Rep.via x y.nn v he).2 (Rep.nn y v h1)
  | [], _ :: _, _, hw, _ => hw.elim
  | _ :: _, [], _, hw, _ => hw.elim
def wkC (ids : List Nat) : Blk → Blk → Prop
  | .box xs, .box ys => wkM ids xs ys
  | b, b' => b.ren ids = some b'
theorem wkC_ok {ids : List Nat} {m : Mp} {S : Nat → Prop} {w : World} {j k : Nat} {b b' : Blk} (hk : ids[j]? = some k) (hw : wkC ids b b') (h : BlkOK m S w k b') : BlkOK (via ids m) S w j b := by
  have gen : b.ren ids = some b' → BlkOK (via ids m) S w j b := fun hr => (BlkOK.via hk hr).2 h
  cases b with
  | box xs =>
    cases b' with
    | box ys =>
      obtain ⟨b, cells, T, h1, h2, h3, h4, h5⟩ := h
      exact ⟨b, cells, T, by simp [K.via, hk, h1], h2, wkM_reps hw h3, h4, h5⟩
    | _ => exact gen hw
  | _ => exact gen hw
def wkCs (ids : List Nat) (H : List Blk) : List Nat → List Blk → Prop
  | [], [] => True
  | i :: is, b :: bs => wkC ids b (H.getD i .unborn) ∧ wkCs ids H is bs
  | _, _ => False
theorem wkCs_spec {ids : List Nat} {H : List Blk} : ∀ {is : List Nat} {bs : List Blk}, wkCs ids H is bs → is.length = bs.length ∧ ∀ j i, is[j]? = some i → wkC ids (bs.getD j .unborn) (H.getD i .unborn)
  | [], [], _ => ⟨rfl, fun j i h => by simp at h⟩
  | i :: is, b :: bs, h => by
    obtain ⟨h1, h2⟩ := wkCs_spec h.2
    refine ⟨by simp [h1], fun j k hj => ?_⟩
    cases j with
    | zero => simp only [List.getElem?_cons_zero, Option.some.injEq] at hj; subst hj; exact h.1
    | succ j => simpa using h2 j k (by simpa using hj)
  | [], _ :: _, h => h.elim
  | _ :: _, [], h => h.elim
theorem Weak.toN {st st' : St} (ids : List Nat) (hk : st'.k = st.k) (hn' : nodupB ids = true) (hl : ids.length = st'.H.length) (hpre : st.k ≤ ids.length ∧ ids.take st.k = List.range st.k)
    (hH' : wkCs ids st.H ids st'.H) (he : wkM ids st'.env st.env) : Weak st st' := by
  have hn := nodupB_spec hn'
  have hH := (wkCs_spec hH').2
  intro cx m S a w hs
  have h := hs.hold
  refine ⟨via ids m, S, ⟨⟨h.os, h.tape, h.output, h.size, h.old, h.s0, h.s, fun id p b hp hb => ?_, fun id id' p p' b hne hp hp' hb => ?_, fun j => ?_, fun id p hp => ?_⟩, wkM_reps he hs.env, hs.df, by rw [hk]; exact hs.pre⟩⟩
  · obtain ⟨k, _, hk⟩ := via_some hp; exact h.pl k p b hk hb
  · obtain ⟨k, h1, hk⟩ := via_some hp
    obtain ⟨k', h1', hk'⟩ := via_some hp'
    refine h.apart k k' p p' b (fun he => hne ?_) hk hk' hb
    subst he
    exact (List.getElem?_inj (List.getElem?_eq_some_iff.1 h1).1 hn).1 (h1.trans h1'.symm)
  · rcases Nat.lt_or_ge j ids.length with hj | hj
    · have hkj : ids[j]? = some ids[j] := List.getElem?_eq_getElem hj
      exact wkC_ok hkj (hH j _ hkj) (h.ok _)
    · rw [getD_none (by rw [← hl]; exact hj)]
      simp only [BlkOK, K.via, List.getElem?_eq_none hj, Option.bind_none]
  · have hid : id < st.k := by
      rcases Nat.lt_or_ge id st.k with h1 | h1
      · exact h1
      · rw [hs.pre id h1] at hp; cases hp
    have hki : ids[id]? = some id := by
      have : (ids.take st.k)[id]? = some id := by rw [hpre.2, List.getElem?_range hid]
      rwa [List.getElem?_take, if_pos hid] at this
    simp only [K.via, hki, Option.bind_some]
    exact h.le id p hp
/-- A block is let go. -/
def isLive : Blk → Bool
  | .arr .. => true
  | .fro .. => true
  | .box _ => true
  | _ => false
theorem Weak.gone {st st' : St} (j : Nat) (hb : isLive (st.H.getD j .unborn) = true) (he : st' = ⟨st.env, st.H.set j .gone, st.k⟩) : Weak st st' := by
  subst he
  intro cx m S a w hs
  have h := hs.hold
  have hj : ∃ p, m j = some p := by
    have hok := h.ok j
    cases hx : st.H.getD j .unborn with
    | unborn => rw [hx] at hb; cases hb
    | gone => rw [hx] at hb; cases hb
    | box xs => rw [hx] at hok; obtain ⟨b, cells, T, h1, _⟩ := hok; exact ⟨_, h1⟩
    | arr e sz n xs => rw [hx] at hok; obtain ⟨v, h1, _⟩ := hok; exact ⟨_, h1⟩
    | fro e sz n xs => rw [hx] at hok; obtain ⟨v, h1, _⟩ := hok; exact ⟨_, h1⟩
  have hlen : j < st.H.length := by
    rcases Nat.lt_or_ge j st.H.length with h1 | h1
    · exact h1
    · rw [getD_none h1] at hb; cases hb
  have hLe : Le m (updM m j .gone) := fun k q hq => by
    by_cases e1 : k = j
    · subst e1; right; simp [updM]
    · left; simpa only [updM, e1, if_false] using hq
  have hne : ∀ i, i ≠ j → updM m j .gone i = m i := fun i hi => by simp only [updM, hi, if_false]
  have hself : updM m j .gone j = some .gone := by simp [updM]
  have blkM : ∀ {id p b}, updM m j .gone id = some p → p.blk = some b → m id = some p := fun {id p b} hp hb => by
    by_cases e1 : id = j
    · subst e1; rw [hself] at hp; cases hp; cases hb
    · rw [hne id e1] at hp; exact hp
  refine ⟨_, S, ⟨⟨h.os, h.tape, h.output, h.size, h.old, h.s0, h.s, fun id p b hp hb => h.pl id p b (blkM hp hb) hb, fun id id' p p' b hd hp hp' hb hb' => h.apart id id' p p' b hd (blkM hp hb) (blkM hp' hb') hb hb', fun i => ?_, h.le.trans hLe⟩,
    Reps.mono hLe (fun _ h => h) (Keeps.refl S w) _ _ hs.env, hs.df, hs.pre⟩⟩
  by_cases hi : i = j
  · subst hi
    rw [show (st.H.set i .gone).getD i .unborn = .gone by simp [List.getD_eq_getElem?_getD, List.getElem?_set, hlen]]
    exact hself
  · rw [show (st.H.set j .gone).getD i .unborn = st.H.getD i .unborn by simp [List.getD_eq_getElem?_getD, List.getElem?_set, Ne.symm hi]]
    exact (h.ok i).mono (hne i hi) hLe (fun _ h => h) (Keeps.refl S w) fun p g _ _ => ⟨rfl, fun h => h⟩
/-- A row takes another number. -/
def wkV (c a : Nat) : List A → List A → Prop
  | [], [] => True
  | x :: xs, y :: ys => (x = y ∨ (x = .own c ∧ y = .own a)) ∧ wkV c a xs ys
  | _, _ => False
def mvL (a c : Nat) : Nat → List Blk → List Blk → Prop
  | j, x :: xs, y :: ys => (j = a ∨ x = y ∨ ∃ p q, x = .box p ∧ y = .box q ∧ wkV c a p q) ∧ mvL a c (j + 1) xs ys
  | _, [_], [] => True
  | _, [], [] => True
  | _, _, _ => False
theorem mvL_spec {a c : Nat} : ∀ {xs ys : List Blk} {j : Nat}, mvL a c j xs ys → ∀ i, i < ys.length → j + i = a ∨ xs.getD i .unborn = ys.getD i .unborn ∨ ∃ p q, xs.getD i .unborn = .box p ∧ ys.getD i .unborn = .box q ∧ wkV c a p q
  | _, [], _, _, i, hi => by simp at hi
  | [], y :: ys, _, h, _, _ => by simp [mvL] at h
  | x :: xs, y :: ys, j, h, i, hi => by
    simp only [mvL] at h
    cases i with
    | zero => simpa using h.1
    | succ i =>
      have := mvL_spec h.2 i (by simpa using hi)
      rw [show j + (i + 1) = j + 1 + i by omega]
      simpa using this
theorem mvL_len {a c : Nat} : ∀ {xs ys : List Blk} {j : Nat}, mvL a c j xs ys → xs.length ≤ ys.length + 1
  | [], [], _, _ => by simp
  | [_], [], _, _ => by simp
  | _ :: _ :: _, [], _, h => by simp [mvL] at h
  | [], _ :: _, _, h => by simp [mvL] at h
  | x :: xs, y :: ys, j, h => by
    simp only [mvL] at h
    have := mvL_len h.2
    simp; omega
theorem Weak.move {st st' : St} (a c : Nat) {e sz n : Nat} {xs : List D} (ha : st.H.getD a .unborn = .arr e sz n xs) (hc : c = st.H.length) (hne : a ≠ c) (hk : st'.k = st.k) (he : wkV c a st'.env st.env)
    (hga : st'.H.getD a .unborn = .gone) (hgc : st'.H.getD c .unborn = .arr e sz n xs) (ho : mvL a c 0 st'.H st.H) : Weak st st' := by
  intro cx m S act w hs
  have h := hs.hold
  have hcu : st.H.getD c .unborn = .unborn := getD_none (by omega)
  have hok := h.ok a
  rw [ha] at hok
  obtain ⟨v, h1, h2, h3⟩ := hok
  have hmc : m c = none := by have := h.ok c; rw [hcu] at this; exact this
  let m' : Mp := fun k => if k = c then some (.arr v) else if k = a then some .gone else m k
  have mc : m' c = some (.arr v) := by simp [m']
  have ma : m' a = some .gone := by simp [m', hne]
  have mo : ∀ i, i ≠ a → i ≠ c → m' i = m i := fun i h1 h2 => by simp [m', h1, h2]
  have hLe : Le m m' := fun k q hq => by
    by_cases e1 : k = c
    · subst e1; rw [hmc] at hq; cases hq
    · by_cases e2 : k = a
      · subst e2; exact .inr ma
      · left; rw [mo k e2 e1]; exact hq
  have back : ∀ {id p b}, m' id = some p → p.blk = some b → (id = c ∧ p = .arr v ∧ m a = some p) ∨ (id ≠ c ∧ id ≠ a ∧ m id = some p) := fun {id p b} hp hb => by
    by_cases e1 : id = c
    · subst e1; rw [mc] at hp; cases hp; exact .inl ⟨rfl, rfl, h1⟩
    · by_cases e2 : id = a
      · subst e2; rw [ma] at hp; cases hp; cases hb
      · rw [mo id e2 e1] at hp; exact .inr ⟨e1, e2, hp⟩
  have hv1 : ∀ {xs ys : List A} {vs : List Value}, wkV c a xs ys → Reps m S w ys vs → Reps m' S w xs vs := by
    intro xs
    induction xs with
    | nil =>
      intro ys vs hw hr
      cases ys with
      | nil => simp only [Reps] at hr ⊢; exact hr
      | cons y ys => exact hw.elim
    | cons x xs ih =>
      intro ys vs hw hr
      cases ys with
      | nil => exact hw.elim
      | cons y ys =>
        simp only [Reps] at hr ⊢
        obtain ⟨u, r, rfl, k1, k2⟩ := hr
        refine ⟨u, r, rfl, ?_, ih hw.2 k2⟩
        rcases hw.1 with rfl | ⟨rfl, rfl⟩
        · exact Rep.mono hLe (fun _ h => h) (Keeps.refl S w) _ _ k1
        · simp only [Rep, h1] at k1
          simp only [Rep, mc]; exact k1
  refine ⟨m', S, ⟨⟨h.os, h.tape, h.output, h.size, h.old, h.s0, h.s, fun id p b hp hb => ?_, fun id id' p p' b hd hp hp' hb hb' => ?_, fun i => ?_, h.le.trans hLe⟩, hv1 he hs.env, hs.df, by rw [hk]; exact hs.pre⟩⟩
  · rcases back hp hb with ⟨_, _, q⟩ | ⟨_, _, q⟩
    · exact h.pl a p b q hb
    · exact h.pl id p b q hb
  · rcases back hp hb with ⟨e1, e2, q⟩ | ⟨e1, e2, q⟩ <;> rcases back hp' hb' with ⟨f1, f2, q'⟩ | ⟨f1, f2, q'⟩
    · exact hd (e1.trans f1.symm)
    · exact h.apart a id' p p' b (Ne.symm f2) q q' hb hb'
    · exact h.apart id a p p' b e2 q q' hb hb'
    · exact h.apart id id' p p' b hd q q' hb hb'
  · by_cases e1 : i = c
    · subst e1
      rw [hgc]
      exact ⟨v, mc, h2, h3⟩
    · by_cases e2 : i = a
      · subst e2; rw [hga]; exact ma
      · have hok := h.ok i
        by_cases hl : i < st.H.length
        · rcases mvL_spec ho i hl with q | q | ⟨p, q, q1, q2, q3⟩
          · exact absurd (by omega) e2
          · rw [q]
            exact hok.mono (mo i e2 e1) hLe (fun _ h => h) (Keeps.refl S w) fun p g _ _ => ⟨rfl, fun h => h⟩
          · rw [q2] at hok
            obtain ⟨b, cells, T, k1, k2, k3, k4, k5⟩ := hok
            rw [q1]
            exact ⟨b, cells, T, by rw [mo i e2 e1]; exact k1, k2, hv1 q3 k3, k4, k5⟩
        · rw [getD_none (by omega)] at hok
          have hlen := mvL_len ho
          rw [getD_none (by omega)]
          exact (mo i e2 e1).trans hok
section
variable {P : Program} {o : Oper} {st : St}
/-- A row is frozen as it is made. -/
theorem OpRun.frzNew {R : List Loc} {val : A} {bl : List (Nat × Blk)} (vids : List Nat) (h : OpRun P o st R val bl) (hv : vids.all (fun i => (lastB bl i).isSome) = true) :
    OpRun P o st R (val.view (putB [] bl) vids) (bl ++ vids.map fun id => (id, ((putB [] bl).getD id .unborn).frz)) := by
  intro st' hl hlen cx m S a w hs
  refine runs_mono (h st' hl hlen cx m S a w hs) fun v w' ⟨m', S', k1, k2, k3, k4, k5⟩ => ?_
  have hs0 : ∀ id ∈ vids, (putB st'.H bl).getD id .unborn = (putB [] bl).getD id .unborn := fun id hid => by
    have := List.all_eq_true.1 hv id hid
    obtain ⟨b, hb⟩ := Option.isSome_iff_exists.1 this
    rw [getD_putB, getD_putB, hb]; rfl
  have hF := k4.freeze (vids := vids) (H' := putB st'.H (bl ++ vids.map fun id => (id, ((putB [] bl).getD id .unborn).frz))) fun k => by
    rw [getD_putB, lastB_append]
    have e : lastB (vids.map fun id => (id, ((putB [] bl).getD id .unborn).frz)) k = if k ∈ vids then some ((putB [] bl).getD k .unborn).frz else none := lastB_frz
    rw [e]
    by_cases hk : k ∈ vids
    · rw [if_pos hk, if_pos hk, Option.some_or, Option.getD_some, hs0 k hk]
    · rw [if_neg hk, if_neg hk, Option.none_or, getD_putB]
  have hle := fzm_le k4 vids
  refine ⟨_, _, k1.trans hle, fun b hb => .inl (k2 b hb), k3, hF, ?_⟩
  have := Rep.view (vids := vids) k4 val v k5
  rw [view_congr hs0] at this
  exact Rep.mono hle (fun _ h => h) (Keeps.refl _ w') _ _ this
/-- A part of a frozen slice. -/
theorem op_cut {α : Type} {t e sz : Nat} {x : Operand} {lo hi : Option Operand} {l y : List α} {enc : α → List D} {a b : Nat} (ho : o.op = .slice t x lo hi none) (he : sliceElem P t = some (e, sz)) (hx : opA st x = .d (.sl l.length (flatD enc l))) (hlen : ∀ a, (enc a).length = sz)
    (hlo : boundA st 0 lo a) (hhi : boundA st l.length hi b) (h1 : a ≤ b) (h2 : b ≤ l.length) (hy : y = (l.drop a).take (b - a)) : OpRun P o st (locsOf (x :: (lo.toList ++ hi.toList))) (.d (.sl y.length (flatD enc y))) [] := by
  refine .pure fun st' hag cx m S act w hs => ?_
  have hr := op_rep hx (R := locsOf (x :: (lo.toList ++ hi.toList))) (fun l h => by simp [locsOf, h]) hag hs
  simp only [Rep] at hr
  unfold RepD at hr
  obtain ⟨p, cap, hv, k2, k3, k4, k5⟩ := hr
  have hlo' : boundV act 0 lo a := by
    cases lo with
    | none => exact hlo
    | some z => obtain ⟨k, v, q1, rfl⟩ := hlo; exact ⟨k, op_lit q1 (R := locsOf (x :: ((some z).toList ++ hi.toList))) (fun l h => by simp [locsOf, h]) hag hs⟩
  have hhi' : boundV act l.length hi b := by
    cases hi with
    | none => exact hhi
    | some z =>
      obtain ⟨k, v, q1, rfl⟩ := hhi
      refine ⟨k, op_lit q1 (R := locsOf (x :: (lo.toList ++ (some z).toList))) (fun l h => ?_) hag hs⟩
      exact locs_mem (xs := x :: (lo.toList ++ [z])) (by simp) l h
  refine ⟨_, run_slice ho he hv hlo' hhi' h1 (by omega), ?_⟩
  have hyl : y.length = b - a := by rw [hy, List.length_take, List.length_drop]; omega
  have hcut : flatD enc y = ((flatD enc l).drop (a * sz)).take ((b - a) * sz) := by rw [hy, flat_cut hlen]
  simp only [Rep]
  unfold RepD
  refine ⟨_, cap - a, by rw [hyl], by omega, by omega, fun hn => ?_, ?_⟩
  · split at hn
    · have := k4 hn; omega
    · cases p with
      | none => have := k4 rfl; omega
      | some q => cases hn
  · rw [hcut]
    by_cases hc : cap = a
    · rw [if_pos hc, show b - a = 0 by omega, Nat.zero_mul, List.take_zero]
      simp only [RepDs]
    · rw [if_neg hc]
      cases p with
      | none => have := k4 rfl; omega
      | some q => exact RepDs.take (RepDs.drop k5 (a * sz)) _
end
section
variable {P : Program} {t : TypeId} {x y : Operand} {w : World} {a b : List UInt8}
theorem toList_toS (a : List UInt8) : (toS a).toList = a := by rw [ByteArray.toList_eq]; rfl
theorem hb_sadd {z : List UInt8} (he : z = a ++ b) (hl : a.length + b.length ≤ 1000000000) : (do eqGuard .add t x y (.string (toS a)) (.string (toS b)); binOp .add t (.string (toS a)) (.string (toS b)) : Sem Value).run P w = .ok (.string (toS z)) w := by
  subst he
  have h : ¬ (9223372036854775807 < ((toS a).size : Int) + ((toS b).size : Int)) := by
    show ¬ (9223372036854775807 < (a.length : Int) + (b.length : Int))
    omega
  simp [eqGuard, binOp, Op.stringOp, toList_toS, h, toS_app]
end
end Go.Proofs.YtaaooafcijdbmaaDoor.K

namespace Go.Proofs.YtaaooafcijdbmaaDoor.K
open Go.RowKit Go.Lib

/-- Unknown slots. -/
def tp : Nat → List A → List A
  | 0, l => l
  | n + 1, l => .top :: tp n l
/-- Empty slots. -/
def tu : Nat → List A → List A
  | 0, l => l
  | n + 1, l => .tup [] :: tu n l
section
variable {P : Program} {ops : Array Oper} {K : St → List Ef → Prop} {o : Oper} {l : List Oper} {st : St} {F : List Ef}
theorem Wy (val : A) (bl : List (Nat × Blk)) {R : List Loc} (hop : OpRun P o st R val bl) (h : Walk P ops K l (st.put o.dst val bl) (F ++ [⟨o.dst, val, bl, gLoc ops o ++ R⟩])) (hg : gYes ops st o = true := by kernel_rfl) : Walk P ops K (o :: l) st F := Walk.yes hg hop h
theorem Wn (h : Walk P ops K l (st.put o.dst (.tup []) []) (F ++ [⟨o.dst, .tup [], [], gLoc ops o⟩])) (hg : gNo ops st o = true := by kernel_rfl) : Walk P ops K (o :: l) st F := Walk.no hg h
end
section
variable {P : Program} {K : Exit → St → Prop} {c : Code} {st : St} {id : Nat} {l : List Oper}
theorem Adr (h : Walk P l.toArray (fun st' F => chkF l.toArray F = true ∧ K .normal st') l st []) (hm : P.follows .mixedOrders = true := by kernel_rfl) : AWP P K (.region id l.toArray true) st := AWP.drawn hm h
theorem Ato (st' : St) (h : AWP P K c st') (e : st = st' := by kernel_rfl) : AWP P K c st := AWP.to_ e h
theorem Wdr {ops : Array Oper} {F : List Ef} (h : K .normal st) (hc : chkF ops F = true := by kernel_rfl) : Walk P ops (fun st' F => chkF ops F = true ∧ K .normal st') [] st F := ⟨hc, h⟩
end
/-! ### what is dead is forgotten -/
def maskE (ks nb : Nat) : Nat → List A → List A
  | _, [] => []
  | i, x :: l => (match ks.testBit i with | true => (match nb.testBit i with | true => x.nn | false => x) | false => .top) :: maskE ks nb (i + 1) l
def maskH (kb : Nat) : Nat → List Blk → List Blk
  | _, [] => []
  | i, b :: l => (match kb.testBit i, isLive b with | false, true => .gone | _, _ => b) :: maskH kb (i + 1) l
theorem maskE_reps {m : Mp} {S : Nat → Prop} {w : World} {ks nb : Nat} : ∀ {xs : List A} {i : Nat} {vs : List Value}, Reps m S w xs vs → Reps m S w (maskE ks nb i xs) vs
  | [], _, vs, h => by simpa only [maskE, Reps] using h
  | x :: xs, i, vs, h => by
    simp only [Reps] at h
    obtain ⟨v, r, rfl, h1, h2⟩ := h
    simp only [maskE, Reps]
    refine ⟨v, r, rfl, ?_, maskE_reps h2⟩
    split
    · split
      · exact Rep.nn _ _ h1
      · exact h1
    · simp only [Rep]
theorem maskH_get {kb : Nat} : ∀ (l : List Blk) (i j : Nat), (maskH kb i l).getD j .unborn = (match kb.testBit (i + j), isLive (l.getD j .unborn) with | false, true => .gone | _, _ => l.getD j .unborn)
  | [], i, j => by simp only [maskH, List.getD_nil, isLive]; split <;> simp_all
  | b :: l, i, 0 => by simp only [maskH, List.getD_cons_zero, Nat.add_zero]
  | b :: l, i, j + 1 => by
    simp only [maskH, List.getD_cons_succ]
    rw [maskH_get l (i + 1) j, show i + 1 + j = i + (j + 1) by omega]
theorem Weak.mask {st : St} (ks kb : Nat) : Weak st ⟨maskE ks 0 0 st.env, maskH kb 0 st.H, st.k⟩ := by
  intro cx m S a w hs
  have h := hs.hold
  let T : Nat → Bool := fun i => !kb.testBit i && isLive (st.H.getD i .unborn)
  let m' : Mp := fun i => if T i then some .gone else m i
  have hT : ∀ i, T i = true → ∃ p, m i = some p := fun i hi => by
    have hok := h.ok i
    have hb : isLive (st.H.getD i .unborn) = true := by simp only [T, Bool.and_eq_true] at hi; exact hi.2
    cases hx : st.H.getD i .unborn with
    | unborn => rw [hx] at hb; cases hb
    | gone => rw [hx] at hb; cases hb
    | box xs => rw [hx] at hok; obtain ⟨b, cells, T, h1, _⟩ := hok; exact ⟨_, h1⟩
    | arr e sz n xs => rw [hx] at hok; obtain ⟨v, h1, _⟩ := hok; exact ⟨_, h1⟩
    | fro e sz n xs => rw [hx] at hok; obtain ⟨v, h1, _⟩ := hok; exact ⟨_, h1⟩
  have hLe : Le m m' := fun k q hq => by
    by_cases e1 : T k = true
    · right; simp [m', e1]
    · left; simpa [m', e1] using hq
  have blkM : ∀ {id p b}, m' id = some p → p.blk = some b → m id = some p := fun {id p b} hp hb => by
    by_cases e1 : T id = true
    · simp only [m', e1, if_true, Option.some.injEq] at hp; subst hp; cases hb
    · simpa [m', e1] using hp
  refine ⟨m', S, ⟨⟨h.os, h.tape, h.output, h.size, h.old, h.s0, h.s, fun id p b hp hb => h.pl id p b (blkM hp hb) hb, fun id id' p p' b hd hp hp' hb hb' => h.apart id id' p p' b hd (blkM hp hb) (blkM hp' hb') hb hb', fun i => ?_, h.le.trans hLe⟩,
    maskE_reps (Reps.mono hLe (fun _ h => h) (Keeps.refl S w) _ _ hs.env), hs.df, hs.pre⟩⟩
  rw [maskH_get, Nat.zero_add]
  by_cases e1 : T i = true
  · have e2 := e1
    simp only [T, Bool.and_eq_true, Bool.not_eq_true'] at e2
    rw [e2.1, e2.2]
    show m' i = some .gone
    simp [m', e1]
  · have : (match kb.testBit i, isLive (st.H.getD i .unborn) with | false, true => Blk.gone | _, _ => st.H.getD i .unborn) = st.H.getD i .unborn := by
      split
      · rename_i q1 q2; exact absurd (show (!kb.testBit i && isLive (st.H.getD i .unborn)) = true by rw [q1, q2]; rfl) e1
      · rfl
    rw [this]
    exact (h.ok i).mono (by simp [m', e1]) hLe (fun _ h => h) (Keeps.refl S w) fun p g _ _ => ⟨rfl, fun h => h⟩
section
variable {P : Program} {K : Exit → St → Prop} {c : Code} {st : St}
/-- Dead slots and blocks are forgotten; the state is printed. -/
theorem Amk (ks kb : Nat) (st' : St) (h : AWP P K c st') (e : (⟨maskE ks 0 0 st.env, maskH kb 0 st.H, st.k⟩ : St) = st' := by kernel_rfl) : AWP P K c st := AWP.weak (Weak.mask ks kb) (AWP.to_ e h)
theorem Afz (vids : List Nat) (st' : St) (h : AWP P K c st') (e : (⟨A.views st.H vids st.env, frzN st.H vids st.H 0, st.k⟩ : St) = st' := by kernel_rfl) : AWP P K c st := AWP.weak (Weak.frz vids) (AWP.to_ e h)
theorem Rfz {n : Nat} (vids : List Nat) (st' : St) (h : Rounds P K c n st') (e : (⟨A.views st.H vids st.env, frzN st.H vids st.H 0, st.k⟩ : St) = st' := by kernel_rfl) : Rounds P K c n st := Rounds.weak (Weak.frz vids) (Rounds.to_ e h)
end
/-- A state comes to a head: slots outside ks are forgotten, those in nb read nil as an empty slice; block j there is block ids[j] here. -/
def pickH (nb : Nat) (H : List Blk) : List Nat → List Blk
  | [] => []
  | i :: is => (match nb.testBit i, H.getD i .unborn with | true, .box xs => .box (A.nns xs) | _, b => b) :: pickH nb H is
theorem wkM_mask {ids : List Nat} {ks nb : Nat} : ∀ {xs ys : List A} {i : Nat}, A.rens ids xs = some (maskE ks nb i ys) → wkM ids xs ys
  | [], [], _, _ => trivial
  | [], y :: ys, i, h => by simp [A.rens, maskE] at h
  | x :: xs, [], i, h => by
    simp only [A.rens, maskE] at h
    split at h <;> cases h
  | x :: xs, y :: ys, i, h => by
    simp only [A.rens, maskE] at h
    split at h
    · rename_i p q h1 h2
      simp only [Option.some.injEq, List.cons.injEq] at h
      refine ⟨?_, wkM_mask (h2.trans (by rw [h.2]))⟩
      split at h
      · split at h
        · exact .inr (.inr (by rw [h1, h.1]))
        · exact .inr (.inl (by rw [h1, h.1]))
      · left
        have e := h1.trans (by rw [h.1])
        cases x with
        | top => rfl
        | d x => simp [A.ren] at e
        | agg xs => simp only [A.ren] at e; split at e <;> cases e
        | tup xs => simp only [A.ren] at e; split at e <;> cases e
        | loc a b => simp only [A.ren] at e; split at e <;> cases e
        | own a => simp only [A.ren] at e; split at e <;> cases e
        | sub a b c => simp only [A.ren] at e; split at e <;> cases e
        | clo f a b => simp only [A.ren] at e; split at e <;> cases e
        | ab p => simp [A.ren] at e
    · cases h
theorem wkM_rens {ids : List Nat} {nn : Bool} : ∀ {xs ys : List A}, A.rens ids xs = some (match nn with | true => A.nns ys | false => ys) → wkM ids xs ys
  | [], [], _ => trivial
  | [], y :: ys, h => by cases nn <;> simp [A.rens, A.nns] at h
  | x :: xs, [], h => by
    simp only [A.rens] at h
    split at h <;> cases nn <;> simp [A.nns] at h
  | x :: xs, y :: ys, h => by
    simp only [A.rens] at h
    split at h
    · rename_i p q h1 h2
      cases nn with
      | true =>
        simp only [A.nns, Option.some.injEq, List.cons.injEq] at h
        exact ⟨.inr (.inr (by rw [h1, h.1])), wkM_rens (nn := true) (by rw [h2]; simp [h.2])⟩
      | false =>
        simp only [Option.some.injEq, List.cons.injEq] at h
        exact ⟨.inr (.inl (by rw [h1, h.1])), wkM_rens (nn := false) (by rw [h2]; simp [h.2])⟩
    · cases h
theorem wkCs_pick {ids : List Nat} {nb : Nat} {H : List Blk} : ∀ {is : List Nat} {bs : List Blk}, renBs ids bs = some (pickH nb H is) → wkCs ids H is bs
  | [], [], _ => trivial
  | [], b :: bs, h => by
    simp only [renBs, pickH] at h
    split at h <;> cases h
  | i :: is, [], h => by simp [renBs, pickH] at h
  | i :: is, b :: bs, h => by
    simp only [renBs, pickH] at h
    split at h
    · rename_i p q h1 h2
      simp only [Option.some.injEq, List.cons.injEq] at h
      refine ⟨?_, wkCs_pick (h2.trans (by rw [h.2]))⟩
      split at h
      · rename_i xs q1 q2
        rw [q2]
        have e := h1.trans (by rw [h.1])
        cases b with
        | box ys =>
          simp only [Blk.ren] at e
          split at e
          · rename_i zs hz
            simp only [Option.some.injEq, Blk.box.injEq] at e
            exact wkM_rens (nn := true) (by rw [hz, e])
          · cases e
        | _ => cases e
      · have e := h1.trans (by rw [h.1])
        cases b with
        | box ys =>
          simp only [Blk.ren] at e
          split at e
          · rename_i zs hz
            simp only [Option.some.injEq] at e
            rw [← e]
            exact wkM_rens (nn := false) (by rw [hz])
          · cases e
        | unborn => exact e
        | gone => exact e
        | arr e' sz n xs => exact e
        | fro e' sz n xs => exact e
    · cases h
theorem Weak.toK {st st' : St} (ks nb hb : Nat) (ids : List Nat) (h1 : st'.k = st.k := by rfl) (h2 : nodupB ids = true := by kernel_rfl) (h3 : ids.length = st'.H.length := by rfl) (h4 : Nat.ble st.k ids.length = true := by rfl) (h5 : ids.take st.k = List.range st.k := by rfl)
    (h6 : A.rens ids st'.env = some (maskE ks nb 0 st.env) := by kernel_rfl) (h7 : renBs ids st'.H = some (pickH hb st.H ids) := by kernel_rfl) : Weak st st' :=
  Weak.toN ids h1 h2 h3 ⟨Nat.le_of_ble_eq_true h4, h5⟩ (wkCs_pick h7) (wkM_mask h6)
/-! ### operations, computed -/
def loadOf (P : Program) (H : List Blk) (t : TypeId) (y : A) : Option A := match cellsAt H y with | some (xs, off) => loadA P t xs off | none => none
def faddrOf (P : Program) (H : List Blk) (t : TypeId) (f : Nat) (y : A) : Option A := match cellsAt H y, fieldOff P t f with | some _, some k => some (addA k y) | _, _ => none
def extOf (i : Nat) : A → Option A
  | .tup xs => xs[i]?
  | _ => none
def storeOf (P : Program) (H : List Blk) (t : TypeId) (v : A) : A → Option (Nat × Blk)
  | .loc id off => match cellsOf v, sizeT P t, H.getD id .unborn with
    | some ys, some n, .box xs => match Nat.beq n ys.length, Nat.ble (off + ys.length) xs.length with | true, true => some (id, .box (putC xs off ys)) | _, _ => none
    | _, _, _ => none
  | _ => none
def buildOf (P : Program) (t : TypeId) (parts : List (Nat × A)) : Option A := match P.underlying t with
  | some (.struct fs) => match placesOf P fs.toList, zeroA P t with
    | some pl, some zs => match fillA pl zs parts with | some ys => some (.agg ys) | none => none
    | _, _ => none
  | _ => none
def lenOf (P : Program) (H : List Blk) (t : TypeId) (y : A) : Option Int := match P.underlying t with
  | some .string => match y with | .d (.lit (.string s)) => some (s.size : Int) | _ => none
  | some (.slice _) => match sliceAt H y with | some (_, _, n) => some (n : Int) | none => none
  | _ => none
section
variable {P : Program} {o : Oper} {st : St}
theorem Omv {x : Operand} {val : A} (ho : mvOf o.op = some x) (h : opA st x = val := by kernel_rfl) : OpRun P o st (locOf x) val [] := (op_move ho).cast h
theorem OpT {c x y : Operand} {val : A} (ho : o.op = .pick c x y) (hc : opA st c = .d (.lit (.bool true)) := by kernel_rfl) (h : opA st x = val := by kernel_rfl) : OpRun P o st (locsOf [c, x]) val [] := (op_pickT ho hc).cast h
theorem OpF {c x y : Operand} {val : A} (ho : o.op = .pick c x y) (hc : opA st c = .d (.lit (.bool false)) := by kernel_rfl) (h : opA st y = val := by kernel_rfl) : OpRun P o st (locsOf [c, y]) val [] := (op_pickF ho hc).cast h
theorem Oex {x : Operand} {i : Nat} {val : A} (ho : o.op = .extract x i) (h : extOf i (opA st x) = some val := by kernel_rfl) : OpRun P o st (locOf x) val [] := by
  cases hx : opA st x <;> rw [hx] at h <;> simp only [extOf] at h <;> try cases h
  exact op_extract ho hx h
theorem Oal {t id : Nat} {ys : List A} (ho : o.op = .alloc t) (hz : zeroA P t = some ys := by kernel_rfl) (hid : st.H.getD id .unborn = .unborn := by kernel_rfl) : OpRun P o st [.blk id] (.loc id 0) [(id, .box ys)] := op_alloc ho hz hid
theorem Obx {t id : Nat} {x : Operand} {ys : List A} (ho : o.op = .box t x) (hys : cellsOf (opA st x) = some ys := by kernel_rfl) (hid : st.H.getD id .unborn = .unborn := by kernel_rfl) : OpRun P o st (locOf x ++ [.blk id]) (.loc id 0) [(id, .box ys)] := op_box ho rfl hys hid
theorem Old {t : TypeId} {x : Operand} {z : A} (ho : o.op = .load t x) (h : loadOf P st.H t (opA st x) = some z := by kernel_rfl) : OpRun P o st (locOf x ++ locA (opA st x)) z [] := by
  unfold loadOf at h
  split at h
  · exact op_load ho rfl ‹_› h
  · cases h
theorem Ofa {t : TypeId} {x : Operand} {f : Nat} {z : A} (ho : o.op = .fieldAddr t x f) (h : faddrOf P st.H t f (opA st x) = some z := by kernel_rfl) : OpRun P o st (locOf x ++ locA (opA st x)) z [] := by
  unfold faddrOf at h
  split at h
  · rename_i h1 h2
    cases h
    exact op_faddr ho rfl (by rw [h1]; rfl) h2
  · cases h
theorem Ost {t : TypeId} {x y : Operand} {id : Nat} {b : Blk} (ho : o.op = .store t x y) (h : storeOf P st.H t (opA st y) (opA st x) = some (id, b) := by kernel_rfl) : OpRun P o st (locsOf [x, y] ++ [.blk id]) (.tup []) [(id, b)] := by
  cases hx : opA st x <;> rw [hx] at h <;> simp only [storeOf] at h <;> try cases h
  split at h
  · rename_i ys n xs h1 h2 h3
    split at h
    · rename_i h4 h5
      cases h
      exact op_store ho hx h3 rfl h1 (by rw [h2, Nat.eq_of_beq_eq_true h4]) (Nat.le_of_ble_eq_true h5)
    · cases h
  · cases h
theorem Obd {t : TypeId} {parts : List (Nat × Operand)} {z : A} (ho : o.op = .build t parts.toArray) (h : buildOf P t (partsA st parts) = some z := by kernel_rfl) : OpRun P o st (partLocs parts) z [] := by
  unfold buildOf at h
  split at h
  · rename_i fs hu
    split at h
    · rename_i pl zs h1 h2
      split at h
      · rename_i ys h3; cases h; exact op_build ho hu h1 h2 h3
      · cases h
    · cases h
  · cases h
theorem Oln {t : TypeId} {x : Operand} {v : Int} (ho : o.op = .call ⟨.builtin .len, #[x], #[t]⟩) (h : lenOf P st.H t (opA st x) = some v := by kernel_rfl) : OpRun P o st (locOf x ++ locA (opA st x)) (.d (.lit (.int .i64 v))) [] := by
  unfold lenOf at h
  split at h
  · rename_i hu
    split at h
    · rename_i s hx
      cases h
      have := op_len_str (st := st) ho hu hx
      rw [hx]
      simpa [locA] using this
    · cases h
  · rename_i e hu
    split at h
    · rename_i ds off n hs
      cases h
      exact op_len ho hu rfl hs
    · cases h
  · cases h
theorem Obn {op : BinOp} {t u : TypeId} {x y : Operand} {a1 a2 v : Value} (ho : o.op = .binOp op t x y u) (hrun : ∀ w, (do eqGuard op t x y a1 a2; binOp op t a1 a2 : Sem Value).run P w = .ok v w)
    (hx : opA st x = .d (.lit a1) := by kernel_rfl) (hy : opA st y = .d (.lit a2) := by kernel_rfl) (h1 : v.oneCell' = true := by rfl) : OpRun P o st (locsOf [x, y]) (.d (.lit v)) [] := op_bin ho hx hy hrun h1
def callArgs (H : List Blk) (f : FuncId) (vids : List Nat) (args : List A) : A → Option (List A)
  | .clo (.func g) first cap => match Nat.beq g f with | true => some (A.views H vids (first ++ args ++ cap)) | false => none
  | _ => none
/-- Arguments as a contract has them: nil as nil, or as an empty slice. -/
def rawB (rw : Nat) : Nat → List A → List A
  | _, [] => []
  | i, x :: l => (match rw.testBit i with | true => x | false => x.nn) :: rawB rw (i + 1) l
theorem rawB_nnL {rw : Nat} : ∀ {xs : List A} {i : Nat}, nnL (rawB rw i xs) xs
  | [], _ => trivial
  | x :: l, i => ⟨by cases rw.testBit i <;> simp, rawB_nnL⟩
def frzIf (H : List Blk) (vids : List Nat) : Bool → List (Nat × Blk)
  | true => vids.map fun id => (id, (H.getD id .unborn).frz)
  | false => []
def callBl (H : List Blk) (pids nids vids : List Nat) (fz : Bool) (post : List Blk) : Option (List (Nat × Blk)) := match renBs (pids ++ nids) post with
  | some p => some ((pids ++ nids).zip p ++ frzIf H vids fz)
  | none => none
variable {callee : Operand} {args : List Operand} {ats : Array TypeId} {f : FuncId} {xs ys : List A} {pre : List Blk} {res : A} {post : List Blk} {val : A} {bl : List (Nat × Blk)}
theorem mkCall2 (pids nids vids : List Nat) (rw : Nat) (fz : Bool) (con : GCall P f xs pre res post) (hin : ∀ args w, (callFunc f args).run P w = .ok (.enter f args) w) (ho : o.op = .call ⟨.value callee, args.toArray, ats⟩)
    (hy : callArgs st.H f vids (args.map (opA st)) (opA st callee) = some ys) (hargs : A.rens pids xs = some (rawB rw 0 ys)) (hpre : preOK pids st.H pids pre) (hB : callB st.H post pids nids vids = true) (hbl : callBl st.H pids nids vids fz post = some bl) (hres : res.ren (pids ++ nids) = some val) :
    ∃ first cap post', CallOK P st o callee args f first cap xs pre res post pids nids vids val post' ∧ bl = (pids ++ nids).zip post' ++ frzIf st.H vids fz := by
  unfold callBl at hbl
  split at hbl
  · rename_i p hp
    cases hbl
    unfold callArgs at hy
    split at hy
    · rename_i g first cap hc
      split at hy
      · rename_i hg
        cases hy
        have := Nat.eq_of_beq_eq_true hg
        subst this
        exact ⟨first, cap, p, mkCallN pids nids vids con ho hc hin ⟨_, hargs, rawB_nnL⟩ hpre hB hp hres, rfl⟩
      · cases hy
    · cases hy
  · cases hbl
theorem Ocp (pids nids vids : List Nat) (rw : Nat) (con : GCall P f xs pre res post) (hp : res.Plain ∧ ∀ b ∈ post, b.Plain) (hin : ∀ args w, (callFunc f args).run P w = .ok (.enter f args) w) (ho : o.op = .call ⟨.value callee, args.toArray, ats⟩) (hpre : preOK pids st.H pids pre)
    (hargs : (callArgs st.H f vids (args.map (opA st)) (opA st callee)).map (rawB rw 0) = A.rens pids xs := by kernel_rfl) (hs : (callArgs st.H f vids (args.map (opA st)) (opA st callee)).isSome = true := by kernel_rfl)
    (hB : callB st.H post pids nids vids = true := by kernel_rfl) (hbl : callBl st.H pids nids vids false post = some bl := by kernel_rfl) (hres : res.ren (pids ++ nids) = some val := by kernel_rfl) : OpRun P o st (callR callee args pids nids vids) val bl := by
  obtain ⟨ys, hy⟩ := Option.isSome_iff_exists.1 hs
  rw [hy, Option.map_some] at hargs
  obtain ⟨first, cap, post', h, rfl⟩ := mkCall2 pids nids vids rw false con hin ho hy hargs.symm hpre hB hbl hres
  rw [frzIf, List.append_nil]
  exact h.plain hp
theorem Ocf (pids nids vids : List Nat) (rw : Nat) (con : GCall P f xs pre res post) (hin : ∀ args w, (callFunc f args).run P w = .ok (.enter f args) w) (ho : o.op = .call ⟨.value callee, args.toArray, ats⟩) (hpre : preOK pids st.H pids pre)
    (hargs : (callArgs st.H f vids (args.map (opA st)) (opA st callee)).map (rawB rw 0) = A.rens pids xs := by kernel_rfl) (hs : (callArgs st.H f vids (args.map (opA st)) (opA st callee)).isSome = true := by kernel_rfl)
    (hB : callB st.H post pids nids vids = true := by kernel_rfl) (hbl : callBl st.H pids nids vids true post = some bl := by kernel_rfl) (hres : res.ren (pids ++ nids) = some val := by kernel_rfl) : OpRun P o st (callR callee args pids nids vids) val bl := by
  obtain ⟨ys, hy⟩ := Option.isSome_iff_exists.1 hs
  rw [hy, Option.map_some] at hargs
  obtain ⟨first, cap, post', h, rfl⟩ := mkCall2 pids nids vids rw true con hin ho hy hargs.symm hpre hB hbl hres
  exact h.frozen
end
section
variable {P : Program} {rs : List ResultVar} {k : Nat} {res : A} {post : List Blk} {st : St}
def resOne (P : Program) (st : St) (rs : List ResultVar) : Option A := match resList P st rs with | some xs => some (one xs).nn | none => none
def retB (k : Nat) (ids : List Nat) : Bool := nodupB ids && Nat.ble k ids.length && decide (ids.take k = List.range k)
theorem ret_2 (ids : List Nat) (h2 : resOne P st rs = res.ren ids) (h2' : (resOne P st rs).isSome = true) (h3 : renBs ids post = some (pickH 0 st.H ids)) (h5 : retB k ids = true) : RetK P rs k res post .ret st ∧ RetK P rs k res post .normal st := by
  unfold resOne at h2 h2'
  split at h2
  · rename_i xs hx
    simp only [retB, Bool.and_eq_true, decide_eq_true_eq] at h5
    refine ret_any ids xs hx h2.symm ?_ h5.1.1 ⟨Nat.le_of_ble_eq_true h5.1.2, h5.2⟩
    clear h2 h2' hx h5
    have : ∀ (is : List Nat) (bs : List Blk), renBs ids bs = some (pickH 0 st.H is) → preOK ids st.H is bs := by
      intro is
      induction is with
      | nil =>
        intro bs h
        cases bs with
        | nil => trivial
        | cons b bs => simp only [renBs, pickH] at h; split at h <;> cases h
      | cons i is ih =>
        intro bs h
        cases bs with
        | nil => simp [renBs, pickH] at h
        | cons b bs =>
          simp only [renBs, pickH] at h
          split at h
          · rename_i p q h1 h2
            simp only [Option.some.injEq, List.cons.injEq, Nat.zero_testBit] at h
            exact ⟨by rw [h1, h.1], ih bs (by rw [h2, h.2])⟩
          · cases h
    exact this ids post h3
  · rename_i hx; rw [hx] at h2'; cases h2'
theorem ret_i (ids : List Nat) (h2 : resOne P st rs = res.ren ids := by kernel_rfl) (h2' : (resOne P st rs).isSome = true := by kernel_rfl) (h3 : renBs ids post = some (pickH 0 st.H ids) := by kernel_rfl) (h5 : retB k ids = true := by kernel_rfl) : RetK P rs k res post .ret st := (ret_2 ids h2 h2' h3 h5).1
theorem ret_n (ids : List Nat) (h2 : resOne P st rs = res.ren ids := by kernel_rfl) (h2' : (resOne P st rs).isSome = true := by kernel_rfl) (h3 : renBs ids post = some (pickH 0 st.H ids) := by kernel_rfl) (h5 : retB k ids = true := by kernel_rfl) : RetK P rs k res post .normal st := (ret_2 ids h2 h2' h3 h5).2
end
section
variable {P : Program} {o : Oper} {st : St}
theorem Ocs {R : List Loc} {val val' : A} {bl : List (Nat × Blk)} (e : val = val') (h : OpRun P o st R val bl) : OpRun P o st R val' bl := h.cast e
theorem OcB {R : List Loc} {val : A} {bl bl' : List (Nat × Blk)} (h : OpRun P o st R val bl) (e : bl = bl') : OpRun P o st R val bl' := h.castB e
theorem Ofz (vids : List Nat) (val : A) (bl : List (Nat × Blk)) {R : List Loc} {val' : A} {bl' : List (Nat × Blk)} (h : OpRun P o st R val bl) (hv : vids.all (fun i => (lastB bl i).isSome) = true := by kernel_rfl) (e1 : val.view (putB [] bl) vids = val' := by kernel_rfl)
    (e2 : (bl ++ vids.map fun id => (id, ((putB [] bl).getD id .unborn).frz)) = bl' := by kernel_rfl) : OpRun P o st R val' bl' := ((OpRun.frzNew vids h hv).cast e1).castB e2
variable {α : Type} {enc : α → List D} {l r a : List α} {i sz k : Nat} {x0 : α} {t : TypeId} {x : Operand}
/-- An element of a frozen slice, a row's: a struct or one cell; or a part of it. -/
theorem Lf {zs : List A} (ho : o.op = .load t x) (hl : ∀ a, (enc a).length = sz) (hx : l[i]? = some x0) (hy : opA st x = .d (.ref (List.drop (i * sz) (flatD enc l))) := by kernel_rfl) (hk : aggSize P t = some zs.length := by kernel_rfl)
    (hz : ((enc x0).take zs.length).map A.d = zs := by kernel_rfl) (hle : Nat.ble zs.length sz = true := by rfl) : OpRun P o st (locOf x ++ locA (.d (.ref (List.drop (i * sz) (flatD enc l))))) (.agg zs) [] :=
  op_load_of zs ho hy rfl hk (flat_ref_le hl hx (Nat.le_of_ble_eq_true hle)) (flat_ref hl hx hz)
theorem Lfk {zs : List A} (k : Nat) (ho : o.op = .load t x) (hl : ∀ a, (enc a).length = sz) (hx : l[i]? = some x0) (hy : opA st x = .d (.ref (List.drop k (List.drop (i * sz) (flatD enc l)))) := by kernel_rfl) (hk : aggSize P t = some zs.length := by kernel_rfl)
    (hz : (((enc x0).drop k).take zs.length).map A.d = zs := by kernel_rfl) (hle : Nat.ble (k + zs.length) sz = true := by rfl) : OpRun P o st (locOf x ++ locA (.d (.ref (List.drop k (List.drop (i * sz) (flatD enc l)))))) (.agg zs) [] :=
  op_load_of zs ho hy rfl hk (flat_refk_le hl hx (Nat.le_of_ble_eq_true hle)) (flat_refk hl hx hz)
theorem Lf1 {z : D} (ho : o.op = .load t x) (hl : ∀ a, (enc a).length = sz) (hx : l[i]? = some x0) (hy : opA st x = .d (.ref (List.drop (i * sz) (flatD enc l))) := by kernel_rfl) (hk : scalarT P t = true := by kernel_rfl)
    (hz : (enc x0)[0]? = some z := by kernel_rfl) : OpRun P o st (locOf x ++ locA (.d (.ref (List.drop (i * sz) (flatD enc l))))) (.d z) [] :=
  op_load_at _ ho hy rfl hk (flat_ref_at hl hx hz)
theorem Lfk1 {z : D} (k : Nat) (ho : o.op = .load t x) (hl : ∀ a, (enc a).length = sz) (hx : l[i]? = some x0) (hy : opA st x = .d (.ref (List.drop k (List.drop (i * sz) (flatD enc l)))) := by kernel_rfl) (hk : scalarT P t = true := by kernel_rfl)
    (hz : (enc x0)[k]? = some z := by kernel_rfl) : OpRun P o st (locOf x ++ locA (.d (.ref (List.drop k (List.drop (i * sz) (flatD enc l)))))) (.d z) [] :=
  op_load_at _ ho hy rfl hk (flat_refk_at hl hx hz)
theorem Lr {zs : List A} (ho : o.op = .load t x) (hl : ∀ a, (enc a).length = sz) (hx : l[i]? = some x0) (hy : cellsAt st.H (opA st x) = some ((flatD enc l).map A.d, i * sz) := by kernel_rfl) (hk : aggSize P t = some zs.length := by kernel_rfl)
    (hz : ((enc x0).take zs.length).map A.d = zs := by kernel_rfl) (hle : Nat.ble zs.length sz = true := by rfl) : OpRun P o st (locOf x ++ locA (opA st x)) (.agg zs) [] :=
  op_load_of zs ho rfl hy hk (flat_row_le hl hx (Nat.le_of_ble_eq_true hle)) (flat_row hl hx hz)
def intOf : A → Option Int
  | .d (.lit (.int _ n)) => some n
  | _ => none
theorem intOf_spec {y : A} {n : Int} (h : intOf y = some n) : ∃ k, y = .d (.lit (.int k n)) := by
  unfold intOf at h
  split at h
  · cases h; exact ⟨_, rfl⟩
  · cases h
/-- An element's address. -/
theorem Oia {ix : Operand} {iv : Int} {val : A} (ho : o.op = .indexAddr t x ix) (hl : ∀ a, (enc a).length = sz) (hi : iv = ((Int.toNat iv : Nat) : Int)) (hg : l[Int.toNat iv]? = some x0)
    (hy : sliceAt st.H (opA st x) = some (flatD enc l, 0, l.length) := by kernel_rfl) (he : (sliceElem P t).map Prod.snd = some sz := by kernel_rfl) (hix : intOf (opA st ix) = some iv := by kernel_rfl) (hv : elemA (Int.toNat iv * sz) (opA st x) = val := by kernel_rfl) :
    OpRun P o st (locsOf [x, ix] ++ locA (opA st x)) val [] := by
  obtain ⟨k, hk⟩ := intOf_spec hix
  cases hs : sliceElem P t with
  | none => rw [hs] at he; cases he
  | some q =>
    obtain ⟨e, s⟩ := q
    rw [hs] at he
    cases he
    exact (op_iaddr ho rfl hy hs hk hi (getlt hg)).cast hv
theorem Oap {e by_ id nid : Nat} {z : Value} {s : Operand} (ho : o.op = .call ⟨.builtin .append, #[s, x], #[t, t]⟩) (E : ElemOK P t e sz by_ z) (hl : ∀ a, (enc a).length = sz) (he : a = l ++ r) (hle : l.length + r.length ≤ 1000000000) (hb : Nat.ble by_ 140000 = true := by rfl)
    (hs0 : opA st s = .own id := by kernel_rfl) (hblk : st.H.getD id .unborn = .arr e sz l.length (flatD enc l) := by kernel_rfl) (hy : sliceAt st.H (opA st x) = some (flatD enc r, 0, r.length) := by kernel_rfl) (hnid : st.H.getD nid .unborn = .unborn := by kernel_rfl) (hne : Nat.beq id nid = false := by rfl) :
    OpRun P o st (locsOf [s, x] ++ (locA (opA st x) ++ [.blk id, .blk nid])) (.own nid) [(id, .gone), (nid, .arr e sz a.length (flatD enc a))] :=
  (op_append ho E hs0 hblk rfl hy (flat_all hl) (flatD_length hl _) (app_bytes hle (Nat.le_of_ble_eq_true hb)) hnid (Nat.ne_of_beq_eq_false hne)).castB (bl_app (by rw [he, List.length_append]) (by rw [he, flatD_append]))
def buildSliceOf (P : Program) (t : TypeId) (len : Nat) (parts : List (Nat × A)) : Option Blk := match sliceElem P t with
  | some (e, sz) => match zeroA P e with
    | some zs => match Nat.beq zs.length sz, Nat.blt 0 sz, Nat.ble (len * sz) 16777216, fillA ((List.range len).map fun i => (i * sz, sz)) (List.replicate (len * sz) .top) parts with
      | true, true, true, some ys => match toDs ys, Nat.beq ys.length (len * sz) with
        | some ds, true => some (.arr e sz len ds)
        | _, _ => none
      | _, _, _, _ => none
    | none => none
  | none => none
theorem Obs {len id : Nat} {parts : List (Nat × Operand)} {b : Blk} (ho : o.op = .buildSlice t len parts.toArray) (h : buildSliceOf P t len (partsA st parts) = some b := by kernel_rfl) (hid : st.H.getD id .unborn = .unborn := by kernel_rfl) :
    OpRun P o st (partLocs parts ++ [.blk id]) (.own id) [(id, b)] := by
  unfold buildSliceOf at h
  split at h
  · rename_i e sz he
    split at h
    · rename_i zs hz
      split at h
      · rename_i ys h1 h2 h3 h4
        split at h
        · rename_i ds h5 h6
          cases h
          exact op_buildSlice ho he hz (Nat.eq_of_beq_eq_true h1) (Nat.le_of_ble_eq_true h2) h3 h4 h5 (Nat.eq_of_beq_eq_true h6) hid
        · cases h
      · cases h
    · cases h
  · cases h
/-- An element of an own row is written, or a part of it. -/
def dsOf (v : A) : Option (List D) := match cellsOf v with
  | some ys => toDs ys
  | none => none
theorem toDs_len : ∀ {ys : List A} {ds : List D}, toDs ys = some ds → ds.length = ys.length
  | [], ds, h => by simp only [toDs, Option.some.injEq] at h; subst h; rfl
  | .d x :: ys, ds, h => by
    simp only [toDs] at h
    split at h
    · cases h; simp [toDs_len ‹_›]
    · cases h
  | .top :: _, _, h => by simp [toDs] at h
  | .agg _ :: _, _, h => by simp [toDs] at h
  | .tup _ :: _, _, h => by simp [toDs] at h
  | .loc _ _ :: _, _, h => by simp [toDs] at h
  | .own _ :: _, _, h => by simp [toDs] at h
  | .sub _ _ _ :: _, _, h => by simp [toDs] at h
  | .clo _ _ _ :: _, _, h => by simp [toDs] at h
  | .ab _ :: _, _, h => by simp [toDs] at h
theorem Osr {e id : Nat} {y : Operand} (k : Nat) (ho : o.op = .store t x y) (hl : ∀ a, (enc a).length = sz) (hx : l[i]? = some x0) (y0 : α) (hp : opA st x = .loc id (i * sz + k) := by kernel_rfl)
    (hb : st.H.getD id .unborn = .arr e sz l.length (flatD enc l) := by kernel_rfl) (hds : (dsOf (opA st y)).isSome = true := by kernel_rfl) (hn : sizeT P t = some ((dsOf (opA st y)).getD []).length := by kernel_rfl) (hle : Nat.ble (k + ((dsOf (opA st y)).getD []).length) sz = true := by kernel_rfl)
    (hy0 : putC (enc x0) k ((dsOf (opA st y)).getD []) = enc y0 := by kernel_rfl) : OpRun P o st (locsOf [x, y] ++ [.blk id]) (.tup []) [(id, .arr e sz (l.set i y0).length (flatD enc (l.set i y0)))] := by
  obtain ⟨cs, hcs⟩ := Option.isSome_iff_exists.1 hds
  rw [hcs] at hn hle hy0
  simp only [Option.getD_some] at hn hle hy0
  unfold dsOf at hcs
  split at hcs
  · rename_i ys hys
    exact (op_storeRow ho hp hb rfl hys hcs (by rw [hn, toDs_len hcs]) (flat_fitk hl (getlt hx) (Nat.le_of_ble_eq_true hle))).castB (bl_one (by simp) (flat_setk hl hx hy0 (Nat.le_of_ble_eq_true hle)))
  · cases hcs
end
/-! ### nil becomes an own row -/
theorem wkN_refl {nid : Nat} : ∀ xs : List A, wkN nid xs xs
  | [] => trivial
  | x :: xs => ⟨.inl rfl, wkN_refl xs⟩
theorem wkN_set {nid : Nat} : ∀ {xs : List A} {t : Nat}, xs[t]? = some (.d .nil) → wkN nid (xs.set t (.own nid)) xs
  | [], t, h => by simp at h
  | x :: xs, 0, h => by
    simp only [List.getElem?_cons_zero, Option.some.injEq] at h
    exact ⟨.inr ⟨rfl, h⟩, wkN_refl xs⟩
  | x :: xs, t + 1, h => ⟨.inl rfl, wkN_set (by simpa using h)⟩
theorem Weak.ownS {st : St} (t e sz : Nat) (h1 : st.env[t]? = some (.d .nil)) : Weak st ⟨st.env.set t (.own st.H.length), st.H ++ [.arr e sz 0 []], st.k⟩ :=
  Weak.own (st' := ⟨st.env.set t (.own st.H.length), st.H ++ [.arr e sz 0 []], st.k⟩) st.H.length e sz (getD_none (Nat.le_refl _)) rfl (wkN_set h1) (by simp [List.getD_eq_getElem?_getD]) fun j hj => .inl (getD_snoc rfl hj)
def boxAt (H : List Blk) (b : Nat) : List A := match H.getD b .unborn with | .box xs => xs | _ => []
theorem Weak.ownB {st : St} (b i e sz : Nat) (h1 : (boxAt st.H b)[i]? = some (.d .nil)) : Weak st ⟨st.env, st.H.set b (.box ((boxAt st.H b).set i (.own st.H.length))) ++ [.arr e sz 0 []], st.k⟩ := by
  have hb : st.H.getD b .unborn = .box (boxAt st.H b) := by
    cases hx : st.H.getD b .unborn with
    | box xs => simp only [boxAt, hx]
    | _ => rw [boxAt, hx] at h1; simp at h1
  have hl : b < st.H.length := by
    rcases Nat.lt_or_ge b st.H.length with h | h
    · exact h
    · rw [getD_none h] at hb; cases hb
  exact Weak.own (st' := ⟨st.env, st.H.set b (.box ((boxAt st.H b).set i (.own st.H.length))) ++ [.arr e sz 0 []], st.k⟩) st.H.length e sz (getD_none (Nat.le_refl _)) rfl (wkN_refl _) (by simp [List.getD_eq_getElem?_getD, List.getElem?_append]) (ownH_set (i := b) rfl hb hl (wkN_set h1))
section
variable {P : Program} {K : Exit → St → Prop} {c : Code} {st : St}
theorem Aow (t e sz : Nat) (st' : St) (h : AWP P K c st') (h1 : st.env[t]? = some (.d .nil) := by kernel_rfl) (e1 : (⟨st.env.set t (.own st.H.length), st.H ++ [.arr e sz 0 []], st.k⟩ : St) = st' := by kernel_rfl) : AWP P K c st := AWP.weak (Weak.ownS t e sz h1) (AWP.to_ e1 h)
theorem Aob (b i e sz : Nat) (st' : St) (h : AWP P K c st') (h1 : (boxAt st.H b)[i]? = some (.d .nil) := by kernel_rfl) (e1 : (⟨st.env, st.H.set b (.box ((boxAt st.H b).set i (.own st.H.length))) ++ [.arr e sz 0 []], st.k⟩ : St) = st' := by kernel_rfl) : AWP P K c st := AWP.weak (Weak.ownB b i e sz h1) (AWP.to_ e1 h)
end
section
variable {P : Program} {t u : TypeId} {k : IntKind} {a b : Int}
theorem hb_max (ty : TypeId) (cs : Array Bool) (w : World) : (builtin .max #[t, u] ty cs #[.int k a, .int k b]).run P w = .ok (.value (.int k (max a b))) w := by
  simp [builtin, Builtin.max_, Builtin.max2]
  omega
end
end Go.Proofs.YtaaooafcijdbmaaDoor.K

namespace Go.Proofs.YtaaooafcijdbmaaDoor.K
open Go.RowKit Go.Lib
/-- An interface value's content, asked for a type that is a number's: it and true; or 0 and false. -/
def tasI (k : IntKind) (t : Nat) : Value → Option (Int × Bool)
  | .iface t' u => match Nat.beq t' t with
    | true => (match u with | .int k' n => (match decide (k' = k) with | true => some (n, true) | false => none) | _ => none)
    | false => some (0, false)
  | .nilIface => some (0, false)
  | _ => none
def tasS (t : Nat) : Value → Option (List UInt8 × Bool)
  | .iface t' u => match Nat.beq t' t with
    | true => (match u with | .string s => some (s.data.toList, true) | _ => none)
    | false => some ([], false)
  | .nilIface => some ([], false)
  | _ => none
/-- Does it hold a thing of a type? -/
def isT (t : Nat) : Value → Bool
  | .iface t' _ => Nat.beq t' t
  | _ => false
def inI (k : IntKind) : Value → Option Int
  | .iface _ (.int k' n) => match decide (k' = k) with | true => some n | false => none
  | _ => none
def inS : Value → Option (List UInt8)
  | .iface _ (.string s) => some s.data.toList
  | _ => none
theorem inI_some {k : IntKind} {t : Nat} {v : Value} {n : Int} (ht : isT t v = true) (h : inI k v = some n) : v = .iface t (.int k n) := by
  cases v with
  | iface t' u =>
    have := Nat.eq_of_beq_eq_true ht
    subst this
    cases u with
    | int k' m =>
      simp only [inI] at h
      split at h
      · rename_i hk; cases h; rw [of_decide_eq_true hk]
      · cases h
    | _ => cases h
  | _ => cases ht
theorem inS_some {t : Nat} {v : Value} {l : List UInt8} (ht : isT t v = true) (h : inS v = some l) : v = .iface t (.string (toS l)) := by
  cases v with
  | iface t' u =>
    have := Nat.eq_of_beq_eq_true ht
    subst this
    cases u with
    | string s => cases h; rfl
    | _ => cases h
  | _ => cases ht
def notIface (P : Program) (t : TypeId) : Bool := match P.underlying t with
  | some (.interface _) => false
  | some _ => true
  | none => false
section
variable {P : Program} {o : Oper} {st : St}
theorem Oif {t : TypeId} {x : Operand} {v : Value} (ho : o.op = .makeInterface t x) (hx : opA st x = .d (.lit v) := by kernel_rfl) (ht : notIface P t = true := by kernel_rfl) : OpRun P o st (locOf x) (.d (.lit (.iface t v))) [] := by
  refine .pure fun st' hag cx m S a w hs => ⟨.iface t v, ?_, by simp only [Rep]; unfold RepD; exact ⟨rfl, rfl⟩⟩
  have h1 := op_lit hx (fun _ h => h) hag hs
  unfold notIface at ht
  cases hu : P.underlying t with
  | none => rw [hu] at ht; cases ht
  | some d =>
    rw [hu] at ht
    cases d <;> first | (simp at ht; done) | simp [execOp, ho, h1, Instr.makeInterface, run_underlying hu]
def zeroOf (P : Program) (t : TypeId) : Option Value := match P.info? t with
  | some i => i.zero
  | none => none
theorem run_zero {t : TypeId} {z : Value} (h : zeroOf P t = some z) (w : World) : (zeroValue t).run P w = .ok z w := by
  unfold zeroOf at h
  split at h
  · rename_i i hi; simp [zeroValue, typeInfo, hi, h]
  · cases h
theorem OtI {T t : TypeId} {x : Operand} {k : IntKind} {v : Value} {r : Int × Bool} (hv : tasI k t v = some r) (ho : o.op = .typeAssert x T t true) (hx : opA st x = .d (.lit v) := by kernel_rfl) (ht : notIface P t = true := by kernel_rfl) (hz : zeroOf P t = some (.int k 0) := by kernel_rfl) :
    OpRun P o st (locOf x) (.tup [.d (.lit (.int k r.1)), .d (.lit (.bool r.2))]) [] := by
  refine .pure fun st' hag cx m S a w hs => ⟨.tuple #[.int k r.1, .bool r.2], ?_, ?_⟩
  · have h1 := op_lit hx (fun _ h => h) hag hs
    have hzr := run_zero hz w
    unfold notIface at ht
    cases hu : P.underlying t with
    | none => rw [hu] at ht; cases ht
    | some d =>
      rw [hu] at ht
      cases v with
      | nilIface => cases hv; cases d <;> first | (simp at ht; done) | simp [execOp, ho, h1, Instr.typeAssert, run_underlying hu, hzr]
      | iface t' u =>
        simp only [tasI] at hv
        split at hv
        · rename_i hb
          have := Nat.eq_of_beq_eq_true hb
          subst this
          cases u with
          | int k' n =>
            simp only at hv
            split at hv
            · rename_i hk
              cases hv
              rw [of_decide_eq_true hk] at h1
              cases d <;> first | (simp at ht; done) | simp [execOp, ho, h1, Instr.typeAssert, run_underlying hu]
            · cases hv
          | _ => cases hv
        · rename_i hb
          cases hv
          have hne : ¬ t' = t := fun e => by subst e; rw [Nat.beq_refl] at hb; cases hb
          cases d <;> first | (simp at ht; done) | simp [execOp, ho, h1, Instr.typeAssert, run_underlying hu, hne, hzr]
      | _ => cases hv
  · simp only [Rep, Reps]
    refine ⟨_, rfl, _, _, rfl, ?_, _, _, rfl, ?_, rfl⟩ <;> (unfold RepD; exact ⟨rfl, rfl⟩)
theorem OtS {T t : TypeId} {x : Operand} {v : Value} {r : List UInt8 × Bool} (hv : tasS t v = some r) (ho : o.op = .typeAssert x T t true) (hx : opA st x = .d (.lit v) := by kernel_rfl) (ht : notIface P t = true := by kernel_rfl) (hz : zeroOf P t = some (.string ⟨#[]⟩) := by kernel_rfl) :
    OpRun P o st (locOf x) (.tup [.d (.lit (.string (toS r.1))), .d (.lit (.bool r.2))]) [] := by
  refine .pure fun st' hag cx m S a w hs => ⟨.tuple #[.string (toS r.1), .bool r.2], ?_, ?_⟩
  · have h1 := op_lit hx (fun _ h => h) hag hs
    have hzr := run_zero hz w
    unfold notIface at ht
    cases hu : P.underlying t with
    | none => rw [hu] at ht; cases ht
    | some d =>
      rw [hu] at ht
      cases v with
      | nilIface => cases hv; cases d <;> first | (simp at ht; done) | (simp [execOp, ho, h1, Instr.typeAssert, run_underlying hu, hzr]; rfl)
      | iface t' u =>
        simp only [tasS] at hv
        split at hv
        · rename_i hb
          have := Nat.eq_of_beq_eq_true hb
          subst this
          cases u with
          | string s => cases hv; cases d <;> first | (simp at ht; done) | (simp [execOp, ho, h1, Instr.typeAssert, run_underlying hu]; rfl)
          | _ => cases hv
        · rename_i hb
          cases hv
          have hne : ¬ t' = t := fun e => by subst e; rw [Nat.beq_refl] at hb; cases hb
          cases d <;> first | (simp at ht; done) | (simp [execOp, ho, h1, Instr.typeAssert, run_underlying hu, hne, hzr]; rfl)
      | _ => cases hv
  · simp only [Rep, Reps]
    refine ⟨_, rfl, _, _, rfl, ?_, _, _, rfl, ?_, rfl⟩ <;> (unfold RepD; exact ⟨rfl, rfl⟩)
/-- A method of what an interface value holds: one number or text, no further arguments. -/
theorem Oiv {recv : Operand} {name : String} {ats : Array TypeId} {f : FuncId} {t : TypeId} {u : Value} {res : A} (con : GCall P f [.d (.lit u)] [] res []) (hp : res.Plain) (hin : ∀ args w, (callFunc f args).run P w = .ok (.enter f args) w)
    (hm : ∀ w, (method (P.types.size + Made.depth) t u name).run P w = .ok (f, u) w) (ho : o.op = .call ⟨.invoke recv name, #[], ats⟩) (hx : opA st recv = .d (.lit (.iface t u)) := by kernel_rfl) (hone : u.oneCell' = true := by rfl) (hr : res.ren [] = some res := by kernel_rfl) : OpRun P o st (locOf recv) res [] := by
  intro st' hag hlen cx m S a w hs
  have h1 := op_lit hx (fun _ h => h) hag hs
  have e : (execOp a.eval o).run P w = .ok (.enter f #[u]) w := by
    simp [execOp, ho, resolve, invoke, callMethod, h1, hm w, hin]
  rw [e]
  have hn : ([] ++ [] : List Nat).Nodup := List.nodup_nil
  have hdis : ∀ id ∈ ([] : List Nat), id ∉ ([] ++ [] : List Nat) := fun id hid => by cases hid
  have hargs : Reps m (SV' m S []) w [A.d (.lit u)] [u] := by
    simp only [Reps, Rep]
    exact ⟨u, [], rfl, by unfold RepD; exact ⟨rfl, hone⟩, rfl⟩
  have hpre : renH [] ([] : List Blk) st'.H := ⟨rfl, fun j k h => by simp at h⟩
  have hrun := call_core (vids := []) (nids := []) (pids := []) hs.hold con hargs rfl hpre hn hdis
  refine Calls.mono hrun fun e w' ⟨v, he, hg1, hz1, m1, S1, h1, h2⟩ => ⟨v, he, ?_⟩
  obtain ⟨m2, hv, hLe, hK, hother, hfree, hV, hold⟩ := merge (post' := []) hs.hold hn hpre ⟨rfl, fun j b h => by simp at h⟩ (fun b h => by cases h) (fun id h => by cases h) hdis h1
  refine ⟨m2, S, hLe, fun _ h => h, hK, hold S _ (fun _ h => h) (fun b hb => h1.s0 b (.inl hb)) (fun j k hj => by simp at hj) (fun k hk => by cases hk) (fun k hk hkv => rfl), ?_⟩
  rw [← hv] at h2
  exact Rep.plain _ _ hp ((Rep.via res res v hr).1 h2)
theorem hb_andNot {t : TypeId} {x y : Operand} {k : IntKind} {a b : Int} {w : World} : (do eqGuard .andNot t x y (.int k a) (.int k b); binOp .andNot t (.int k a) (.int k b) : Sem Value).run P w = .ok (.int k (k.wrap ((BitVec.ofInt k.bits a &&& ~~~ BitVec.ofInt k.bits b).toNat))) w := by
  simp [eqGuard, binOp, Op.intBits]
end
end Go.Proofs.YtaaooafcijdbmaaDoor.K

namespace Go.Proofs.YtaaooafcijdbmaaDoor.K
open Go.RowKit Go.Lib
section
variable {P : Program} {K : Exit → St → Prop} {b c : Code} {st : St}
theorem AWP.goto {l : Nat} (h : K (.goto l) st) : AWP P K (.goto l) st := fun cx m S a w hs => wp_goto ⟨st, m, S, h, hs⟩
theorem AWP.label {l : Nat} (h : K .normal st) : AWP P K (.label l) st := fun cx m S a w hs => wp_label ⟨st, m, S, h, hs⟩
theorem Then.goto {l : Nat} (h : K (.goto l) st) : Then P K b (.goto l) st := h
theorem InBlock.goto {l id : Nat} (h : K (.goto l) st) : InBlock id K (.goto l) st := h
theorem RoundK.goto {n l : Nat} (h : K (.goto l) st) : RoundK P K c n (.goto l) st := h
/-- Up to the label. -/
def LabK {α : Type} (S : α → St) (I : α → Prop) (K : Exit → St → Prop) : Exit → St → Prop
  | .normal, st => ∃ x, I x ∧ Weak st (S x)
  | .goto _, _ => False
  | e, st => K e st
/-- From the label on. -/
def JmpK {α : Type} (l : Nat) (S : α → St) (I : α → Prop) (μ : α → Nat) (n : Nat) (K : Exit → St → Prop) : Exit → St → Prop
  | .goto l', st => l' = l ∧ ∃ y, I y ∧ μ y < n ∧ Weak st (S y)
  | e, st => K e st
section
variable {α : Type} {S : α → St} {I : α → Prop} {μ : α → Nat} {l n : Nat}
theorem LabK.ret (h : K .ret st) : LabK S I K .ret st := h
theorem LabK.exit {id : Nat} (h : K (.exit id) st) : LabK S I K (.exit id) st := h
theorem JmpK.ret (h : K .ret st) : JmpK l S I μ n K .ret st := h
theorem JmpK.exit {id : Nat} (h : K (.exit id) st) : JmpK l S I μ n K (.exit id) st := h
theorem JmpK.normal (h : K .normal st) : JmpK l S I μ n K .normal st := h
end
end
section
variable {P : Program} {o : Oper} {st : St}
theorem Ofb {f : FuncId} {x : Operand} {ats : Array TypeId} {n : Int} (hc : ∀ w, (callFunc f #[.int .u64 n]).run P w = .ok (.value (.float .f64 n.toNat)) w) (ho : o.op = .call ⟨.value (.func f), #[x], ats⟩) (hx : opA st x = .d (.lit (.int .u64 n)) := by kernel_rfl) :
    OpRun P o st (locOf x) (.d (.lit (.float .f64 n.toNat))) [] := by
  refine .pure fun st' hag cx m S a w hs => ⟨.float .f64 n.toNat, ?_, by simp only [Rep]; unfold RepD; exact ⟨rfl, rfl⟩⟩
  have h1 := op_lit hx (fun _ h => h) hag hs
  have h2 : a.eval (.func f) = .func (.func f) #[] #[] := rfl
  simp [execOp, ho, resolve, invoke, h1, h2, hc, Deferred.ofValue]
def fne (a b : Nat) : Bool := FloatKind.f64.format.order a b != some .eq
theorem hb_fneq {t : TypeId} {x y : Operand} {a b : Nat} {w : World} : (do eqGuard .neq t x y (.float .f64 a) (.float .f64 b); binOp .neq t (.float .f64 a) (.float .f64 b) : Sem Value).run P w = .ok (.bool (fne a b)) w := by simp [eqGuard, binOp, Op.floatCmp, fne]
end
theorem take_rep {β : Type} {zs : List β} {n c : Nat} (h : n ≤ c) : ((List.replicate c zs).flatten).take (n * zs.length) = (List.replicate n zs).flatten := by
  obtain ⟨d, rfl⟩ : ∃ d, c = n + d := ⟨c - n, by omega⟩
  rw [← List.replicate_append_replicate, List.flatten_append]
  exact List.take_left' (by rw [List.length_flatten, List.map_replicate, List.sum_replicate_nat])
/-- A row is made with room for more. -/
theorem op_makeC {P : Program} {o : Oper} {st : St} {t e sz by_ nid n cp : Nat} {z : Value} {l c : Operand} {kl kc : IntKind} {L C : Int} (ho : o.op = .makeSlice t l c) (E : ElemOK P t e sz by_ z) (hone : z.cells.toList.all (·.oneCell') = true) (hl : opA st l = .d (.lit (.int kl L))) (hc : opA st c = .d (.lit (.int kc C))) (hL : L = n) (hC : C = cp) (hnc : n ≤ cp)
    (hbytes : by_ * cp ≤ 281474976710656) (hnid : st.H.getD nid .unborn = .unborn) : OpRun P o st (locsOf [l, c] ++ [.blk nid]) (.own nid) [(nid, .arr e sz n (List.replicate n (z.cells.toList.map litD)).flatten)] := by
  refine .value fun st' hag cx m S a w hs => ?_
  have hnid' : st'.H.getD nid .unborn = .unborn := (blk1 (by simp) hag).trans hnid
  have e1 := op_lit hl (R := locsOf [l, c] ++ [.blk nid]) (fun l h => by simp [locsOf, h]) hag hs
  have e2 := op_lit hc (R := locsOf [l, c] ++ [.blk nid]) (fun l h => by simp [locsOf, h]) hag hs
  obtain ⟨i, hi, hz, h4, h5⟩ := E.parts
  have hm : cp ≤ maxLen := by
    have := Nat.le_mul_of_pos_left cp E.byp
    unfold maxLen; omega
  have hrun := run_make (P := P) w t e i z E.slice hi hz kl kc n cp (by omega) (by omega) (by rw [h5, ← Int.natCast_mul]; omega) (by unfold maxLen at hm; omega)
  simp only [Int.toNat_natCast] at hrun
  have hz1 := E.zs
  have h1 : ones z.cells.toList := fun v hv => List.all_eq_true.1 hone v hv
  have hflat : (madeCells z.cells (cp * i.size)).toList = (List.replicate cp z.cells.toList).flatten := by
    rw [h4, ← hz1]; exact made_flat _ _ (by rw [hz1]; exact E.pos)
  have hmem : ∀ v ∈ (List.replicate n z.cells.toList).flatten, v.oneCell' = true := fun v hv => by
    obtain ⟨l, hl, hv⟩ := List.mem_flatten.1 hv
    rw [(List.mem_replicate.1 hl).2] at hv
    exact h1 v hv
  have hlen : (madeCells z.cells (cp * i.size)).size = cp * sz := by rw [size_madeCells, h4]
  have hul : (List.replicate n z.cells.toList).flatten.length = n * sz := by rw [List.length_flatten, List.map_replicate, List.sum_replicate_nat, Array.length_toList, hz1]
  obtain ⟨m', k1, k2, k3, k4⟩ := hold_row (e := e) (sz := sz) (n := n) (cap := cp) (ds := (List.replicate n (z.cells.toList.map litD)).flatten) (us := (List.replicate n z.cells.toList).flatten) (cur := madeCells z.cells (cp * i.size)) hs.hold hnid'
    ⟨by rw [List.length_flatten, List.length_flatten, List.map_replicate, List.map_replicate, List.length_map], fun j x v hx hv => by
      have : (List.replicate n (z.cells.toList.map litD)).flatten = ((List.replicate n z.cells.toList).flatten).map litD := by rw [List.map_flatten, List.map_replicate]
      rw [this, List.getElem?_map, hv] at hx
      cases hx
      exact litD_rep (hmem v (List.mem_of_getElem? hv))⟩ hmem hul hnc hm hlen (by
        have := take_rep (zs := z.cells.toList) hnc
        rw [Array.length_toList, hz1] at this
        rw [hflat]; first | exact this | (rw [hul]; exact this))
  refine ⟨_, _, m', S, ?_, k1, fun _ h => h, k2, k3, k4 _⟩
  subst hL; subst hC
  simp [execOp, ho, e1, e2, hrun]
/-- An array is built. -/
def buildArr (P : Program) (t n sz : Nat) (parts : List (Nat × A)) : Option A := match zeroA P t with
  | some zs => (match fillA ((List.range n).map fun i => (i * sz, sz)) zs parts with | some ys => some (.agg ys) | none => none)
  | none => none
theorem ObA {P : Program} {o : Oper} {st : St} {t e n sz : Nat} {parts : List (Nat × Operand)} {z : A} (ho : o.op = .build t parts.toArray) (hu : P.underlying t = some (.array n e)) (hi : (P.info? e).map (·.size) = some sz) (h : buildArr P t n sz (partsA st parts) = some z := by kernel_rfl) : OpRun P o st (partLocs parts) z [] := by
  unfold buildArr at h
  split at h
  case h_2 => cases h
  rename_i zs hz
  split at h
  case h_2 => cases h
  rename_i ys hf
  cases h
  refine .pure fun st' hag cx m S a w hs => ?_
  obtain ⟨i, z, hi', hzz, h1, rfl⟩ := zeroA_spec hz
  obtain ⟨j, hj, hjs⟩ : ∃ j, P.info? e = some j ∧ j.size = sz := by
    cases hx : P.info? e with
    | none => rw [hx] at hi; cases hi
    | some j => rw [hx] at hi; exact ⟨j, rfl, by simpa using hi⟩
  obtain ⟨cells, h2, h3, h4⟩ := fill_spec (m := m) (S := S) (w := w) (pl := fun i => some (i * sz, sz)) (fun i q h => by
    obtain ⟨hl, h⟩ := List.getElem?_eq_some_iff.1 h
    rw [List.getElem_map, List.getElem_range] at h
    rw [h]) (vparts := parts.map fun p => (p.1, a.eval p.2)) hf (litAs_rep z.cells.toList) h1 (by simp [partsA]) (parts_reps (fun _ h => h) hag hs)
  refine ⟨.agg cells, ?_, by simp only [Rep]; exact ⟨_, rfl, h3⟩⟩
  have e' : (parts.toArray.map fun p : Nat × Operand => (p.1, a.eval p.2)).toList = parts.map fun p => (p.1, a.eval p.2) := by simp
  simp only [execOp, ho, Instr.build, Sem.run_bind]
  simp only [zeroValue, typeInfo, hi', hzz, Sem.run_bind, run_program, Result.andThen_ok, Sem.run_pure, run_underlying hu, sizeOf, hj, hjs]
  erw [e', h2]
  rfl
/-- A string's bytes as a row. -/
theorem lit_bytes {l : List UInt8} : A.d (.sl (toS l).size (bytesD (toS l).data.toList)) = A.d (.sl (List.length l) (flatD encU8 l)) := by
  rw [flatU8]; rfl
end Go.Proofs.YtaaooafcijdbmaaDoor.K

namespace Go.Proofs.YtaaooafcijdbmaaDoor.K
open Go.RowKit Go.Lib

/-! ### equality of whatever is plain cells -/
section
variable {P : Program}
end
section
variable {P : Program} {o : Oper} {st : St}
/-! ### nil -/
/-! ### a row's mark -/
/-! ### an array's cells as a slice -/
end
end Go.Proofs.YtaaooafcijdbmaaDoor.K

namespace Go.Proofs.YtaaooafcijdbmaaDoor.K
open Go.RowKit Go.Lib
section
variable {P : Program} {o : Oper} {st : St}
end
end Go.Proofs.YtaaooafcijdbmaaDoor.K

namespace Go.Proofs.YtaaooafcijdbmaaDoor.K
open Go.RowKit Go.Lib
abbrev W6 (n : Int) : Int := IntKind.i64.wrap n
abbrev W7 (n : Int) : Int := IntKind.u64.wrap n
abbrev A.u (n : Int) : A := .d (.lit (.int .u64 n))
abbrev Ar {α : Type} (e sz : Nat) (enc : α → List D) (l : List α) : Blk := .arr e sz (List.length l) (flatD enc l)
section
variable {P : Program} {ops : Array Oper} {K : St → List Ef → Prop} {o : Oper} {l : List Oper} {st : St} {F : List Ef}
theorem Wz (val : A) {R : List Loc} (hop : OpRun P o st R val []) (h : Walk P ops K l (st.put o.dst val []) (F ++ [⟨o.dst, val, [], gLoc ops o ++ R⟩])) (hg : gYes ops st o = true := by kernel_rfl) : Walk P ops K (o :: l) st F := Walk.yes hg hop h
theorem Wm (val : A) {x : Operand} (ho : mvOf o.op = some x) (h : Walk P ops K l (st.put o.dst val []) (F ++ [⟨o.dst, val, [], gLoc ops o ++ locOf x⟩])) (hv : opA st x = val := by kernel_rfl) (hg : gYes ops st o = true := by kernel_rfl) : Walk P ops K (o :: l) st F := Walk.yes hg ((op_move ho).cast hv) h
/-- The same, the bit being known. -/
theorem Oq {x : Operand} {b c : Bool} (hb : b = c) (ho : mvOf o.op = some x) (hv : opA st x = .d (.lit (.bool b)) := by kernel_rfl) : OpRun P o st (locOf x) (.d (.lit (.bool c))) [] := Ocs (lit_tf hb) (Omv ho hv)
theorem Ob2 {op : BinOp} {t u : TypeId} {x y : Operand} {v : Value} {val : A} (a1 a2 : Value) (ho : o.op = .binOp op t x y u) (hrun : ∀ w, (do eqGuard op t x y a1 a2; binOp op t a1 a2 : Sem Value).run P w = .ok v w)
    (e : A.d (.lit v) = val := by kernel_rfl) (hx : opA st x = .d (.lit a1) := by kernel_rfl) (hy : opA st y = .d (.lit a2) := by kernel_rfl) (h1 : v.oneCell' = true := by rfl) : OpRun P o st (locsOf [x, y]) val [] := Ocs e (op_bin ho hx hy hrun h1)
theorem Oc2 {s t : TypeId} {x : Operand} {v : Value} {val : A} (a1 : Value) (ho : o.op = .convert s t x) (hrun : ∀ w, (convert s t a1).run P w = .ok v w) (e : A.d (.lit v) = val := by kernel_rfl) (hx : opA st x = .d (.lit a1) := by kernel_rfl) (h1 : v.oneCell' = true := by rfl) :
    OpRun P o st (locOf x) val [] := Ocs e (op_convert ho hx hrun h1)
theorem Wn0 (h : K st F) : Walk P ops K [] st F := h
end
section
variable {P : Program} {K : Exit → St → Prop} {b c x y : Code} {st : St} {id : Nat} {l : List Oper} {F : List Ef} {ops : Array Oper} {q : Operand} {z : Bool}
theorem AiT (hz : z = true) (h : AWP P K x st) (hc : opA st q = .d (.lit (.bool z)) := by kernel_rfl) : AWP P K (.cond q x y) st := AWP.if_ true (Eq.trans hc (lit_tf hz)) h
theorem AiF (hz : z = false) (h : AWP P K y st) (hc : opA st q = .d (.lit (.bool z)) := by kernel_rfl) : AWP P K (.cond q x y) st := AWP.if_ false (Eq.trans hc (lit_tf hz)) h
theorem Sq (h : AWP P (Then P K c) b st) : AWP P K (.seq b c) st := AWP.seq h
theorem Tx (h : Walk P l.toArray (fun st' _ => K .normal st') l st []) : AWP P K (.region id l.toArray false) st := AWP.text h
theorem Sx (h : Walk P l.toArray (fun st' _ => Then P K c .normal st') l st []) : AWP P K (.seq (.region id l.toArray false) c) st := AWP.seq (AWP.text h)
theorem Tn (h : AWP P K b st) : Then P K b .normal st := h
theorem Nn (h : AWP P K b st) : Walk P ops (fun st' _ => Then P K b .normal st') [] st F := h
theorem Nk (ks kb : Nat) (st' : St) (h : AWP P K b st') (e : (⟨maskE ks 0 0 st.env, maskH kb 0 st.H, st.k⟩ : St) = st' := by kernel_rfl) : Walk P ops (fun st' _ => Then P K b .normal st') [] st F := Amk ks kb st' h e
theorem Tk (ks kb : Nat) (st' : St) (h : AWP P K b st') (e : (⟨maskE ks 0 0 st.env, maskH kb 0 st.H, st.k⟩ : St) = st' := by kernel_rfl) : Then P K b .normal st := Amk ks kb st' h e
theorem Rt (h : K .ret st) : AWP P K .ret st := AWP.ret h
theorem Sk (h : K .normal st) : AWP P K .skip st := AWP.skip h
theorem Bk (h : AWP P (InBlock id K) b st) : AWP P K (.block id b) st := AWP.block h
theorem Ir {id : Nat} (h : K .ret st) : InBlock id K .ret st := h
theorem Ino {id : Nat} (h : K .normal st) : InBlock id K .normal st := h
theorem Tr (h : K .ret st) : Then P K b .ret st := h
end
end Go.Proofs.YtaaooafcijdbmaaDoor.K
