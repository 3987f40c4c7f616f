/- len, make, copy, slices of slices, strings, parts of structs. -/
import Derived.Test.YtdpmojhejidhiaaAl
import Derived.Lib.AppendStr
namespace Go.Proofs.Ytdpmojhejidhiaa.K
open Go.RowKit Go.Lib
set_option linter.unusedVariables false
set_option linter.unusedSimpArgs false

def byteD (b : UInt8) : D := .lit (.int .u8 b.toNat)
def bytesD (l : List UInt8) : List D := l.map byteD
@[simp] theorem bytesD_length (l : List UInt8) : (bytesD l).length = l.length := by simp [bytesD]
theorem bytesD_append (l r : List UInt8) : bytesD (l ++ r) = bytesD l ++ bytesD r := by simp [bytesD]
theorem bytesD_plain (l : List UInt8) : ∀ x ∈ bytesD l, x.Plain := by
  intro x hx
  obtain ⟨b, _, rfl⟩ := List.mem_map.1 hx
  trivial
section
variable {P : Program} {o : Oper} {st : St}
theorem op_len_str {t : TypeId} {x : Operand} {s : ByteArray} (ho : o.op = .call ⟨.builtin .len, #[x], #[t]⟩) (hu : P.underlying t = some .string) (hx : opA st x = .d (.lit (.string s))) : OpRun P o st (locOf x) (.d (.lit (.int .i64 s.size))) [] := by
  refine .pure fun st' hl cx m S a w hs => ⟨.int .i64 s.size, ?_, by simp only [Rep]; unfold RepD; exact ⟨rfl, rfl⟩⟩
  have h1 := op_lit hx (fun _ h => h) hl hs
  simp [execOp, ho, resolve, invoke, builtin, Builtin.len_, run_underlying hu, h1, goInt]
theorem op_len {t e : TypeId} {x : Operand} {y : A} {ds : List D} {off n : Nat} (ho : o.op = .call ⟨.builtin .len, #[x], #[t]⟩) (hu : P.underlying t = some (.slice e)) (hx : opA st x = y) (hy : sliceAt st.H y = some (ds, off, n)) : OpRun P o st (locOf x ++ locA y) (.d (.lit (.int .i64 n))) [] := by
  refine .pure fun st' hag cx m S a w hs => ⟨.int .i64 n, ?_, by simp only [Rep]; unfold RepD; exact ⟨rfl, rfl⟩⟩
  have hr := op_rep hx (R := locOf x ++ locA y) (fun l h => by simp [h]) hag hs
  rw [← sliceA_agree fun l h => hag l (by simp [h])] at hy
  obtain ⟨p, cap, hv, _⟩ := sliceAt_spec hs.hold hy hr
  simp [execOp, ho, resolve, invoke, builtin, Builtin.len_, run_underlying hu, hv, goInt]
theorem op_bi2 {b : Builtin} {t u : TypeId} {x y : Operand} {a1 a2 v : Value} (ho : o.op = .call ⟨.builtin b, #[x, y], #[t, u]⟩) (hx : opA st x = .d (.lit a1)) (hy : opA st y = .d (.lit a2)) (hrun : ∀ ty cs w, (builtin b #[t, u] ty cs #[a1, a2]).run P w = .ok (.value v) w) (h1 : v.oneCell' = true := by rfl) :
    OpRun P o st (locsOf [x, y]) (.d (.lit v)) [] := by
  refine .pure fun st' hl cx m S a w hs => ⟨v, ?_, by simp only [Rep]; unfold RepD; exact ⟨rfl, h1⟩⟩
  have e1 := op_lit hx (R := locsOf [x, y]) (fun l h => by simp [locsOf, h]) hl hs
  have e2 := op_lit hy (R := locsOf [x, y]) (fun l h => by simp [locsOf, h]) hl hs
  simp [execOp, ho, resolve, invoke, e1, e2]
  exact hrun _ _ w
theorem flat_get {α : Type} {l : List α} : ∀ (n i : Nat), i < n * l.length → ((List.replicate n l).flatten)[i]? = l[i % l.length]?
  | 0, i, h => by simp at h
  | n + 1, i, h => by
    rw [List.replicate_succ, List.flatten_cons, List.getElem?_append]
    split
    · rename_i hi; rw [Nat.mod_eq_of_lt hi]
    · rename_i hi
      have hl : l.length ≤ i := by omega
      rw [flat_get n (i - l.length) (by rw [Nat.add_mul] at h; omega), Nat.mod_eq_sub_mod hl]
theorem made_flat (z : Array Value) (n : Nat) (hz : 0 < z.size) : (madeCells z (n * z.size)).toList = (List.replicate n z.toList).flatten := by
  apply List.ext_getElem?
  intro i
  by_cases hi : i < n * z.size
  · rw [flat_get n i (by simpa using hi)]
    have hlt : i % z.size < z.size := Nat.mod_lt _ hz
    simp [madeCells, hi, hlt]
  · rw [List.getElem?_eq_none (by simp [madeCells]; omega), List.getElem?_eq_none (by simp; omega)]
def litD : Value → D
  | .slice none 0 0 => .sl 0 []
  | v => .lit v
theorem litD_rep {S : Nat → Prop} {w : World} {v : Value} (h : v.oneCell' = true) : RepD S w (litD v) v := by
  unfold litD
  split
  · exact RepD.nn (x := .nil) (by simp only [RepD])
  · unfold RepD; exact ⟨rfl, h⟩
/-- 'make([]T, n)'. -/
theorem op_make {t e sz by_ nid n : Nat} {z : Value} {l c : Operand} {kl kc : IntKind} {L C : Int} (ho : o.op = .makeSlice t l c) (E : ElemOK P t e sz by_ z) (hone : z.cells.toList.all (·.oneCell') = true) (hl : opA st l = .d (.lit (.int kl L))) (hc : opA st c = .d (.lit (.int kc C))) (hL : L = n) (hC : C = n)
    (hbytes : by_ * n ≤ 281474976710656) (hnid : st.H.getD nid .unborn = .unborn) : OpRun P o st (locsOf [l, c] ++ [.blk nid]) (.own nid) [(nid, .arr e sz n (List.replicate n (z.cells.toList.map litD)).flatten)] := by
  refine .value fun st' hag cx m S a w hs => ?_
  have hnid' : st'.H.getD nid .unborn = .unborn := (blk1 (by simp) hag).trans hnid
  have e1 := op_lit hl (R := locsOf [l, c] ++ [.blk nid]) (fun l h => by simp [locsOf, h]) hag hs
  have e2 := op_lit hc (R := locsOf [l, c] ++ [.blk nid]) (fun l h => by simp [locsOf, h]) hag hs
  obtain ⟨i, hi, hz, h4, h5⟩ := E.parts
  have hm : n ≤ maxLen := by
    have := Nat.le_mul_of_pos_left n E.byp
    unfold maxLen; omega
  have hrun := run_make (P := P) w t e i z E.slice hi hz kl kc n n (by omega) (Int.le_refl _) (by rw [h5, ← Int.natCast_mul]; omega) (by unfold maxLen at hm; omega)
  simp only [Int.toNat_natCast] at hrun
  have hz1 := E.zs
  have h1 : ones z.cells.toList := fun v hv => List.all_eq_true.1 hone v hv
  have hflat : (madeCells z.cells (n * i.size)).toList = (List.replicate n z.cells.toList).flatten := by
    rw [h4, ← hz1]; exact made_flat _ _ (by rw [hz1]; exact E.pos)
  have hmem : ∀ v ∈ (List.replicate n z.cells.toList).flatten, v.oneCell' = true := fun v hv => by
    obtain ⟨l, hl, hv⟩ := List.mem_flatten.1 hv
    rw [(List.mem_replicate.1 hl).2] at hv
    exact h1 v hv
  have hlen : (madeCells z.cells (n * i.size)).size = n * sz := by rw [size_madeCells, h4]
  obtain ⟨m', k1, k2, k3, k4⟩ := hold_row (e := e) (sz := sz) (n := n) (cap := n) (ds := (List.replicate n (z.cells.toList.map litD)).flatten) (us := (List.replicate n z.cells.toList).flatten) (cur := madeCells z.cells (n * i.size)) hs.hold hnid'
    ⟨by rw [List.length_flatten, List.length_flatten, List.map_replicate, List.map_replicate, List.length_map], fun j x v hx hv => by
      have : (List.replicate n (z.cells.toList.map litD)).flatten = ((List.replicate n z.cells.toList).flatten).map litD := by rw [List.map_flatten, List.map_replicate]
      rw [this, List.getElem?_map, hv] at hx
      cases hx
      exact litD_rep (hmem v (List.mem_of_getElem? hv))⟩ hmem (by rw [List.length_flatten, List.map_replicate, List.sum_replicate_nat, Array.length_toList, hz1]) (Nat.le_refl _) hm hlen (by rw [List.take_of_length_le (by simp [hlen]), hflat])
  refine ⟨_, _, m', S, ?_, k1, fun _ h => h, k2, k3, k4 _⟩
  subst hL; subst hC
  simp [execOp, ho, e1, e2, hrun]

/-! ### copy -/
/-- A row of our own, from a cell on, and its length. -/
def rowAt (H : List Blk) : A → Option (Nat × Nat × Nat)
  | .own id => match H.getD id .unborn with | .arr _ _ n _ => some (id, 0, n) | _ => none
  | .sub id off n => some (id, off, n)
  | _ => none
theorem run_copyN {t ts ty e : TypeId} {i : TypeInfo} {w : World} {g off dLen dCap k : Nat} {src : Value} {cur : Array Value} {T : TypeId} {us : List Value} (hu : P.underlying t = some (.slice e)) (hi : P.info? e = some i) (hlen : (Builtin.lenOf src).run P w = .ok k w) (hcells : (Builtin.firstCells i.size k src).run P w = .ok us.toArray w)
    (hle : k ≤ dLen) (hg : RowAt w g cur T) (hfit : off + us.length ≤ cur.size) (h1 : ones us) :
    (Builtin.copy_ #[t, ts] ty #[.slice (some ⟨g, off, none⟩) dLen dCap, src]).run P w = .ok (goInt k) (w.setRow g (putC cur.toList off us).toArray) := by
  have hst := run_storeCells_row P g off T us 0 cur w hg (by simpa using hfit) h1
  simp only [Nat.add_zero] at hst
  have hmin : Nat.min k dLen = k := Nat.min_eq_left hle
  simp [Builtin.copy_, run_underlying hu, sizeOf, typeInfo, hi, hlen, hmin, hcells, hst, putC]
theorem run_copy0 {t ts ty e : TypeId} {i : TypeInfo} {w : World} {p : Option Addr} {dLen dCap : Nat} {src : Value} (hu : P.underlying t = some (.slice e)) (hi : P.info? e = some i) (hlen : (Builtin.lenOf src).run P w = .ok 0 w) (hcells : (Builtin.firstCells i.size 0 src).run P w = .ok #[] w) :
    (Builtin.copy_ #[t, ts] ty #[.slice p dLen dCap, src]).run P w = .ok (goInt 0) w := by
  have hmin : Nat.min 0 dLen = 0 := Nat.min_eq_left (Nat.zero_le _)
  cases p <;> simp [Builtin.copy_, run_underlying hu, sizeOf, typeInfo, hi, hlen, hmin, hcells, storeCells]
theorem hold_same {cx : Cx} {m : Mp} {S : Nat → Prop} {w : World} {H : List Blk} {id : Nat} {b : Blk} (h : Hold cx m S w H) (hb : H.getD id .unborn = b) : Hold cx m S w (setAt H id b) := h.congr fun j => by
  rw [getD_setAt]
  split
  · rename_i hj; subst hj; exact hb.symm
  · rfl
theorem op_copy {t ts e sz id off dn k soff n : Nat} {d s : Operand} {y yd : A} {xs ds es : List D} (ho : o.op = .call ⟨.builtin .copy, #[d, s], #[t, ts]⟩) (he : sliceElem P t = some (e, sz)) (hd : opA st d = yd) (hrow : rowAt st.H yd = some (id, off, dn)) (hb : st.H.getD id .unborn = .arr e sz n xs) (hx : opA st s = y) (hy : sliceAt st.H y = some (ds, soff, k))
    (hes : (ds.drop soff).take (k * sz) = es) (hel : es.length = k * sz) (hle : k ≤ dn) (hfit : off + es.length ≤ xs.length) (hsz0 : 0 < sz) : OpRun P o st (locsOf [d, s] ++ (locA y ++ [.blk id])) (.d (.lit (.int .i64 k))) [(id, .arr e sz n (putC xs off es))] := by
  refine .value fun st' hag cx m S a w hs => ?_
  have hb' : st'.H.getD id .unborn = .arr e sz n xs := (blk1 (by simp) hag).trans hb
  have hrd := op_rep hd (R := locsOf [d, s] ++ (locA y ++ [.blk id])) (fun l h => by simp [locsOf, h]) hag hs
  have hrx := op_rep hx (R := locsOf [d, s] ++ (locA y ++ [.blk id])) (fun l h => by simp [locsOf, h]) hag hs
  rw [← sliceA_agree fun l h => hag l (by simp [h])] at hy
  obtain ⟨p, cap, hv, h1, h2, h3, h4⟩ := sliceAt_spec hs.hold hy hrx
  obtain ⟨us, k1, k2, k3⟩ := cells_news h4 hes
  have hok := hs.hold.ok id
  rw [hb'] at hok
  obtain ⟨v, h5, h6, h9⟩ := hok
  obtain ⟨hu, inf, hinf, hsz⟩ := sliceElem_spec he
  by_cases hpos : 0 < xs.length
  case neg =>
    have hx0 : xs = [] := List.eq_nil_of_length_eq_zero (by omega)
    subst hx0
    have he0 : es = [] := List.eq_nil_of_length_eq_zero (by rw [List.length_nil] at hfit; omega)
    have hk0 : k = 0 := by
      rw [he0] at hel
      rcases Nat.mul_eq_zero.1 hel.symm with h | h
      · exact h
      · omega
    subst he0; subst hk0
    have hdv : ∃ p' n' c', a.eval d = .slice p' n' c' := by
      cases yd with
      | own id' =>
        simp only [rowAt] at hrow
        split at hrow
        · cases hrow
          simp only [Rep, h5] at hrd
          obtain ⟨pa, cap', r1, _⟩ := row_slice h6
          exact ⟨pa, _, cap', by rw [hrd.1]; exact r1⟩
        · cases hrow
      | sub id' off' n' =>
        simp only [rowAt] at hrow
        cases hrow
        simp only [Rep, h5] at hrd
        obtain ⟨g', c', _, he', _⟩ := hrd
        exact ⟨_, _, _, he'⟩
      | _ => cases hrow
    obtain ⟨p', n', c', hdv⟩ := hdv
    have hlenOf : (Builtin.lenOf (a.eval s)).run P w = .ok 0 w := by rw [hv]; rfl
    have hfirst : (Builtin.firstCells inf.size 0 (a.eval s)).run P w = .ok #[] w := by
      rw [hv]
      cases p with
      | none => rfl
      | some q => simp [Builtin.firstCells, loadCells, loadCellsFrom]
    refine ⟨_, w, m, S, ?_, Le.refl m, fun _ h => h, Keeps.refl S w, hold_same hs.hold (by rw [hb']; simp [putC]), by simp only [Rep]; unfold RepD; exact ⟨rfl, rfl⟩⟩
    simp [execOp, ho, resolve, invoke, builtin, hdv, run_copy0 (P := P) (ts := ts) (ty := o.type) hu hinf hlenOf hfirst, goInt]
  have key : ∃ g dCap, v.ownBlock = some g ∧ a.eval d = .slice (some ⟨g, off, none⟩) dn dCap := by
    obtain ⟨pa, cap', r1, r2, r3, r4, r5, r6⟩ := row_slice h6
    have hpa : ∃ q, pa = some q := by
      cases pa with
      | some q => exact ⟨q, rfl⟩
      | none =>
        obtain ⟨hn0, _⟩ := r4 rfl
        obtain ⟨cells, ⟨hl, _⟩, hr, _⟩ := h6
        rw [hn0, Nat.zero_mul] at hl
        have := hr.1
        omega
    obtain ⟨q, rfl⟩ := hpa
    obtain ⟨g, rfl, hg⟩ := r6 q rfl
    cases yd with
    | own id' =>
      simp only [rowAt] at hrow
      split at hrow
      · rename_i e' sz' n' xs' hbb
        cases hrow
        rw [hb] at hbb; cases hbb
        simp only [Rep, h5] at hrd
        exact ⟨g, cap', hg, by rw [hrd.1]; exact r1⟩
      · cases hrow
    | sub id' off' n' =>
      simp only [rowAt] at hrow
      cases hrow
      simp only [Rep, h5] at hrd
      obtain ⟨g', c', hg', he', _⟩ := hrd
      exact ⟨g', c', hg', he'⟩
    | _ => cases hrow
  obtain ⟨g, dCap, hg, hev⟩ := key
  obtain ⟨cur, T, h10, h11, h12⟩ := rowOK_put h6 hg k1 k2 hfit
  have hlenOf : (Builtin.lenOf (a.eval s)).run P w = .ok k w := by rw [hv]; rfl
  have hfirst : (Builtin.firstCells inf.size k (a.eval s)).run P w = .ok us.toArray w := by
    rw [hv, hsz]
    cases p with
    | none =>
      obtain ⟨hk0, _⟩ := h3 rfl
      have : us = [] := List.eq_nil_of_length_eq_zero (by rw [k1.1, hel, hk0]; simp)
      subst this
      rfl
    | some q =>
      have := run_loadCells_list (P := P) (w := w) q us (fun j u hj => k3 q rfl j u hj)
      rw [k1.1, hel] at this
      simpa [Builtin.firstCells] using this
  have hrun := run_copyN (P := P) (ts := ts) (ty := o.type) (dCap := dCap) hu hinf hlenOf hfirst hle h10 h11 k2
  have hw := hs.hold.write (w' := w.setRow g (putC cur.toList off us).toArray) (b := .arr e sz n (putC xs off es)) h5 hg (h9 g hg) rfl rfl rfl (by simp [World.setRow])
    (fun k hk hne => setRow_other w g k _ hne) (fun hK => ⟨v, h5, h12 (fun fz h => setRow_heap w g cur _ T fz h) (fun _ h => h) hK, h9⟩)
  refine ⟨_, _, m, S, ?_, Le.refl m, fun _ h => h, hw.1, hw.2, by simp only [Rep]; unfold RepD; exact ⟨rfl, rfl⟩⟩
  simp [execOp, ho, resolve, invoke, builtin, hev, hrun, goInt]
/-- 'copy(d, s)', s a text. -/
theorem op_copyStr {t ts e id off dn n : Nat} {d s : Operand} {yd : A} {xs : List D} {str : ByteArray} (ho : o.op = .call ⟨.builtin .copy, #[d, s], #[t, ts]⟩) (he : sliceElem P t = some (e, 1)) (hd : opA st d = yd) (hrow : rowAt st.H yd = some (id, off, dn)) (hb : st.H.getD id .unborn = .arr e 1 n xs) (hx : opA st s = .d (.lit (.string str)))
    (hle : str.size ≤ dn) (hfit : off + str.size ≤ xs.length) : OpRun P o st (locsOf [d, s] ++ [.blk id]) (.d (.lit (.int .i64 str.size))) [(id, .arr e 1 n (putC xs off (bytesD str.data.toList)))] := by
  refine .value fun st' hag cx m S a w hs => ?_
  have hb' : st'.H.getD id .unborn = .arr e 1 n xs := (blk1 (by simp) hag).trans hb
  have hrd := op_rep hd (R := locsOf [d, s] ++ [.blk id]) (fun l h => by simp [locsOf, h]) hag hs
  have hev2 := op_lit hx (R := locsOf [d, s] ++ [.blk id]) (fun l h => by simp [locsOf, h]) hag hs
  have hok := hs.hold.ok id
  rw [hb'] at hok
  obtain ⟨v, h5, h6, h9⟩ := hok
  obtain ⟨hu, inf, hinf, hsz⟩ := sliceElem_spec he
  by_cases hpos : 0 < xs.length
  case neg =>
    have hx0 : xs = [] := List.eq_nil_of_length_eq_zero (by omega)
    subst hx0
    have hk0 : str.size = 0 := by rw [List.length_nil] at hfit; omega
    have hstr : str.data.toList = [] := List.eq_nil_of_length_eq_zero (by simpa using hk0)
    have hdv : ∃ p' n' c', a.eval d = .slice p' n' c' := by
      cases yd with
      | own id' =>
        simp only [rowAt] at hrow
        split at hrow
        · cases hrow
          simp only [Rep, h5] at hrd
          obtain ⟨pa, cap', r1, _⟩ := row_slice h6
          exact ⟨pa, _, cap', by rw [hrd.1]; exact r1⟩
        · cases hrow
      | sub id' off' n' =>
        simp only [rowAt] at hrow
        cases hrow
        simp only [Rep, h5] at hrd
        obtain ⟨g', c', _, he', _⟩ := hrd
        exact ⟨_, _, _, he'⟩
      | _ => cases hrow
    obtain ⟨p', n', c', hdv⟩ := hdv
    have hlenOf : (Builtin.lenOf (.string str)).run P w = .ok 0 w := by rw [← hk0]; rfl
    have hfirst : (Builtin.firstCells inf.size 0 (.string str)).run P w = .ok #[] w := by
      have := run_firstCells_string (P := P) w inf.size str
      rw [hk0] at this
      rw [this]
      have : strCells str = [] := by simp [strCells, hstr]
      rw [this]
    refine ⟨_, w, m, S, ?_, Le.refl m, fun _ h => h, Keeps.refl S w, hold_same hs.hold (by rw [hb']; simp [putC, hstr, bytesD]), by simp only [Rep]; unfold RepD; exact ⟨rfl, rfl⟩⟩
    simp [execOp, ho, resolve, invoke, builtin, hdv, hev2, run_copy0 (P := P) (ts := ts) (ty := o.type) hu hinf hlenOf hfirst, goInt, hk0]
  have key : ∃ g dCap, v.ownBlock = some g ∧ a.eval d = .slice (some ⟨g, off, none⟩) dn dCap := by
    obtain ⟨pa, cap', r1, r2, r3, r4, r5, r6⟩ := row_slice h6
    have hpa : ∃ q, pa = some q := by
      cases pa with
      | some q => exact ⟨q, rfl⟩
      | none =>
        obtain ⟨hn0, _⟩ := r4 rfl
        obtain ⟨cells, ⟨hl, _⟩, hr, _⟩ := h6
        rw [hn0, Nat.zero_mul] at hl
        have := hr.1
        omega
    obtain ⟨q, rfl⟩ := hpa
    obtain ⟨g, rfl, hg⟩ := r6 q rfl
    cases yd with
    | own id' =>
      simp only [rowAt] at hrow
      split at hrow
      · rename_i e' sz' n' xs' hbb
        cases hrow
        rw [hb] at hbb; cases hbb
        simp only [Rep, h5] at hrd
        exact ⟨g, cap', hg, by rw [hrd.1]; exact r1⟩
      · cases hrow
    | sub id' off' n' =>
      simp only [rowAt] at hrow
      cases hrow
      simp only [Rep, h5] at hrd
      obtain ⟨g', c', hg', he', _⟩ := hrd
      exact ⟨g', c', hg', he'⟩
    | _ => cases hrow
  obtain ⟨g, dCap, hg, hev⟩ := key
  have k1 : RepsD S w (bytesD str.data.toList) (strCells str) := ⟨by rw [strCells_length, bytesD_length]; rfl, fun j x u hx hu => by
    simp only [strCells, bytesD, List.getElem?_map] at hx hu
    cases hj : str.data.toList[j]? with
    | none => rw [hj] at hx; cases hx
    | some b => rw [hj] at hx hu; cases hx; cases hu; unfold byteD RepD; exact ⟨rfl, rfl⟩⟩
  have k2 : ones (strCells str) := strCells_oneCell str
  have hsl : (bytesD str.data.toList).length = str.size := by rw [bytesD_length]; rfl
  obtain ⟨cur, T, h10, h11, h12⟩ := rowOK_put h6 hg k1 k2 (by rw [hsl]; exact hfit)
  have hrun := run_copyN (P := P) (ts := ts) (ty := o.type) (dCap := dCap) (src := .string str) (k := str.size) hu hinf rfl (run_firstCells_string w inf.size str) hle h10 h11 k2
  have hw := hs.hold.write (w' := w.setRow g (putC cur.toList off (strCells str)).toArray) (b := .arr e 1 n (putC xs off (bytesD str.data.toList))) h5 hg (h9 g hg) rfl rfl rfl (by simp [World.setRow])
    (fun k hk hne => setRow_other w g k _ hne) (fun hK => ⟨v, h5, h12 (fun fz h => setRow_heap w g cur _ T fz h) (fun _ h => h) hK, h9⟩)
  refine ⟨_, _, m, S, ?_, Le.refl m, fun _ h => h, hw.1, hw.2, by simp only [Rep]; unfold RepD; exact ⟨rfl, rfl⟩⟩
  simp [execOp, ho, resolve, invoke, builtin, hev, hev2, hrun, goInt]

/-! ### strings, bytes -/
theorem op_str {t u e : TypeId} {x : Operand} {y : A} {ds : List D} {off n : Nat} {l : List UInt8} (ho : o.op = .convert t u x) (hs0 : P.underlying t = some (.slice e)) (he : P.underlying e = some (.int .u8)) (hd : P.underlying u = some .string) (hx : opA st x = y) (hy : sliceAt st.H y = some (ds, off, n))
    (hl : (ds.drop off).take n = bytesD l) (hn : l.length = n) : OpRun P o st (locOf x ++ locA y) (.d (.lit (.string ⟨l.toArray⟩))) [] := by
  refine .pure fun st' hag cx m S a w hs => ⟨.string ⟨l.toArray⟩, ?_, by simp only [Rep]; unfold RepD; exact ⟨rfl, rfl⟩⟩
  have hr := op_rep hx (R := locOf x ++ locA y) (fun l h => by simp [h]) hag hs
  rw [← sliceA_agree fun l h => hag l (by simp [h])] at hy
  obtain ⟨p, cap, hv, h1, h2, h3, h4⟩ := sliceAt_spec hs.hold hy hr
  have : (convert t u (a.eval x)).run P w = .ok (.string ⟨l.toArray⟩) w := by
    rw [hv]
    cases p with
    | none =>
      obtain ⟨h5, _⟩ := h3 rfl
      have : l = [] := List.eq_nil_of_length_eq_zero (by omega)
      subst this
      exact run_convert_bytes_nil w t e hs0 he n cap u hd
    | some q =>
      subst hn
      refine run_convert_bytes_back w t u e q cap l hs0 he hd fun j hj => ?_
      obtain ⟨us, k1, k2, k3⟩ := cells_news h4 hl
      have hju : us[j]? = some (us[j]'(by rw [k1.1, bytesD_length]; exact hj)) := List.getElem?_eq_getElem _
      have := k1.2 j (byteD l[j]) _ (by simp [bytesD, hj]) hju
      unfold byteD RepD at this
      rw [k3 q rfl j _ hju, this.1]
  simp only [execOp, ho]
  rw [Sem.run_bind, this]; rfl
theorem op_bytes {t u e : TypeId} {x : Operand} {s : ByteArray} (ho : o.op = .convert t u x) (hs0 : P.underlying t = some .string) (hd : P.underlying u = some (.slice e)) (he : P.underlying e = some (.int .u8)) (hx : opA st x = .d (.lit (.string s))) (hm : s.size ≤ maxLen) : OpRun P o st (locOf x) (.d (.sl s.size (bytesD s.data.toList))) [] := by
  refine .value fun st' hag cx m S a w hs => ?_
  have e1 := op_lit hx (fun _ h => h) hag hs
  have hcap := grownCap_ge w s.size 0 e
  have hcm := grownCap_le_maxLen w s.size 0 e hm
  generalize hc : grownCap w s.size 0 e = cap at hcap hcm
  have hce : Question.cut (.appendCap s.size 0 e) (w.tape w.drawn (.appendCap s.size 0 e)) = cap := hc
  let C : Array Value := (s.data.map fun b => Value.int .u8 b.toNat) ++ Array.replicate (cap - s.size) (.int .u8 0)
  let w' : World := (w.drew.alloc (.cells C e)).freeze ⟨w.heap.size, C.size, none⟩ 1
  have hw' : w'.heap[w.heap.size]? = some (.cells C e (C.size, C.size + 1)) := by
    have h0 : (w.drew.alloc (.cells C e)).heap[w.heap.size]? = some (.cells C e (0, 0)) := heap_alloc_new w.drew _
    simp only [w', World.freeze]
    rw [if_neg (by decide)]
    simp only [Array.getElem?_modify, if_true, h0]
    rfl
  have hsz : w'.heap.size = w.heap.size + 1 := by simp [w', World.freeze]
  have hrun : (convert t u (.string s)).run P w = .ok (.slice (some ⟨w.heap.size, 0, none⟩) s.size cap) w' := by
    have hsh : (w.drew.alloc (.cells C e)).shape? w.heap.size = some (e, C.size) := by
      have h0 : (w.drew.alloc (.cells C e)).heap[w.heap.size]? = some (.cells C e (0, 0)) := heap_alloc_new w.drew _
      unfold World.shape?; rw [h0]
    simp [convert, run_underlying hs0, run_underlying hd, run_underlying he, Conv.stringToBytes, Question.forced, newRow, markStringish, hce]
    simp [C] at hsh
    simp [hsh, w', C]
  obtain ⟨hK, hold⟩ := hs.hold.allocS (w' := w') rfl rfl rfl (by omega) (fun b hb => by
    have h0 := Below.heap_alloc w.drew (.cells C e) b hb
    simp only [w', World.freeze]
    have hne : w.heap.size ≠ b := by omega
    simp [Array.getElem?_modify, hne]
    exact h0)
  refine ⟨.slice (some ⟨w.heap.size, 0, none⟩) s.size cap, w', m, fun b => S b ∨ b = w.heap.size, ?_, Le.refl m, fun _ h => .inl h, hK, hold, ?_⟩
  · simp only [execOp, ho, e1]
    rw [Sem.run_bind, hrun]; rfl
  · simp only [Rep, RepD]
    refine ⟨_, cap, rfl, hcap, hcm, (fun h => by cases h), RepDs.of _ _ _ fun j c hj => ?_⟩
    rw [bytesD, List.getElem?_map] at hj
    cases hb : s.data.toList[j]? with
    | none => rw [hb] at hj; cases hj
    | some b =>
      rw [hb] at hj; cases hj
      refine ⟨_, .int .u8 b.toNat, rfl, ?_, .inr rfl, rfl, by unfold byteD RepD; exact ⟨rfl, rfl⟩⟩
      rw [addr_add, cell_at hw']
      have hjl : j < s.data.size := by have := (List.getElem?_eq_some_iff.1 hb).1; simpa using this
      have hb2 : s.data[j]? = some b := by rw [← Array.getElem?_toList]; exact hb
      simp only [C, Nat.zero_add, Array.getElem?_append, Array.size_map, hjl, if_true, Array.getElem?_map, hb2, Option.map_some]
theorem op_index_str {t : TypeId} {x ix : Operand} {s : ByteArray} {k : IntKind} {iv : Int} {i : Nat} {b : UInt8} (ho : o.op = .index t x ix) (hu : P.underlying t = some .string) (hx : opA st x = .d (.lit (.string s))) (hi : opA st ix = .d (.lit (.int k iv))) (hiv : iv = (i : Int)) (hb : s.data.toList[i]? = some b) :
    OpRun P o st (locsOf [x, ix]) (.d (.lit (.int .u8 b.toNat))) [] := by
  refine .pure fun st' hl cx m S a w hs => ⟨.int .u8 b.toNat, ?_, by simp only [Rep]; unfold RepD; exact ⟨rfl, rfl⟩⟩
  have e1 := op_lit hx (R := locsOf [x, ix]) (fun l h => by simp [locsOf, h]) hl hs
  have e2 := op_lit hi (R := locsOf [x, ix]) (fun l h => by simp [locsOf, h]) hl hs
  subst hiv
  have hs' : s[i]? = some b := by
    have h1 : i < s.data.toList.length := (List.getElem?_eq_some_iff.1 hb).1
    have h2 : i < s.size := by simpa using h1
    rw [getElem?_pos s i h2, ByteArray.getElem_eq_getElem_data]
    have := (List.getElem?_eq_some_iff.1 hb).2
    simpa using this
  simp [execOp, ho, Instr.index, e1, e2, asIntOf, run_underlying hu, hs']
end
end Go.Proofs.Ytdpmojhejidhiaa.K
