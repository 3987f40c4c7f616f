/- Slices: literals, append, copy, make, parts; strings; parts of structs. -/
import Derived.Test.YtdpmojhejidhiaaAk
import Derived.Laws.OwnMore
namespace Go.Proofs.Ytdpmojhejidhiaa.K
open Go.RowKit
set_option linter.unusedVariables false
set_option linter.unusedSimpArgs false

section
variable {P : Program} {o : Oper} {st : St}
theorem blk1 {st' : St} {R : List Loc} {id : Nat} (hR : Loc.blk id ∈ R) (hag : ∀ l ∈ R, st'.at l = st.at l) : st'.H.getD id .unborn = st.H.getD id .unborn :=
  blk_agree (st := st) (st' := st') (ids := [id]) (fun l h => hag l (by simp [blks] at h; subst h; exact hR)) (by simp)
/-! ### slice literals -/
theorem op_buildSlice {t e sz len id : Nat} {parts : List (Nat × Operand)} {zs ys : List A} {ds : List D} (ho : o.op = .buildSlice t len parts.toArray) (he : sliceElem P t = some (e, sz)) (hz : zeroA P e = some zs) (hzl : zs.length = sz) (hsz : 0 < sz)
    (hbig : Nat.ble (len * sz) 16777216 = true) (hf : fillA ((List.range len).map fun i => (i * sz, sz)) (List.replicate (len * sz) .top) (partsA st parts) = some ys) (hd : toDs ys = some ds) (hyl : ys.length = len * sz) (hid : st.H.getD id .unborn = .unborn) :
    OpRun P o st (partLocs parts ++ [.blk id]) (.own id) [(id, .arr e sz len ds)] := by
  refine .value fun st' hag cx m S a w hs => ?_
  have hid' : st'.H.getD id .unborn = .unborn := (blk1 (by simp) hag).trans hid
  obtain ⟨hu, inf, hinf, hsz'⟩ := sliceElem_spec he
  obtain ⟨i, z, hi, hzz, h1, rfl⟩ := zeroA_spec hz
  rw [hinf] at hi; cases hi
  have hzs : z.cells.size = sz := by simpa using hzl
  have hle : len * sz ≤ 16777216 := by simpa [Nat.ble_eq] using hbig
  have ones0 : ones ((Array.range (len * sz)).map (fun k => z.cells[k % z.cells.size]!)).toList := by
    intro v hv
    simp only [Array.toList_map, Array.toList_range, List.mem_map, List.mem_range] at hv
    obtain ⟨k, hk, rfl⟩ := hv
    have hlt : k % z.cells.size < z.cells.size := Nat.mod_lt _ (by omega)
    rw [getElem!_pos z.cells _ hlt]
    exact h1 _ (by simp)
  have reps0 : Reps m S w (List.replicate (len * sz) A.top) ((Array.range (len * sz)).map (fun k => z.cells[k % z.cells.size]!)).toList := Reps.of (by simp) fun j x v hx hv => by
    rw [List.getElem?_replicate] at hx
    split at hx
    · cases hx; simp only [Rep]
    · cases hx
  obtain ⟨cells, h2, h3, h4⟩ := fill_spec (m := m) (S := S) (w := w) (pl := fun i => some (i * sz, sz)) (fun i q h => by
      rw [List.getElem?_map] at h
      cases hr : (List.range len)[i]? with
      | none => rw [hr] at h; cases h
      | some k =>
        rw [hr] at h; cases h
        obtain ⟨hjl, hk⟩ := List.getElem?_eq_some_iff.1 hr
        simp at hk; subst hk; rfl) (vparts := parts.map fun p => (p.1, a.eval p.2)) hf reps0 ones0 (by simp [partsA]) (parts_reps (R := partLocs parts ++ [.blk id]) (fun l h => by simp [h]) hag hs)
  have hl3 := h3.length
  have hlen : cells.size = len * sz := by simp at hl3; omega
  have hmx : len ≤ maxLen := by
    have := Nat.le_mul_of_pos_right len hsz
    unfold maxLen; omega
  obtain ⟨m', k1, k2, k3, k4⟩ := hold_row (e := e) (sz := sz) (n := len) (cap := len) (cur := cells) hs.hold hid' (toDs_reps hd h3) h4 (by simpa using hlen) (Nat.le_refl _) hmx hlen (by rw [List.take_of_length_le (by simp [hlen])])
  refine ⟨_, _, m', S, ?_, k1, fun _ h => h, k2, k3, k4 _⟩
  have ep : (parts.toArray.map fun p : Nat × Operand => (p.1, a.eval p.2)).toList = parts.map fun p => (p.1, a.eval p.2) := by simp
  simp only [execOp, ho, Instr.buildSlice, Sem.run_bind]
  simp only [run_underlying hu, sizeOf, typeInfo, hinf, Sem.run_bind, run_program, Result.andThen_ok, Sem.run_pure, hsz']
  rw [if_neg (by omega)]
  by_cases h0 : len * sz = 0
  · rw [if_pos h0]
    simp only [Sem.run_bind, Sem.run_pure, Result.andThen_ok]
    have e0 : ((Array.range (len * sz)).map (fun k => (#[] : Array Value)[k % (#[] : Array Value).size]!)) = ((Array.range (len * sz)).map (fun k => z.cells[k % z.cells.size]!)) := by
      rw [h0]; simp [Array.range]
    erw [e0, ep, h2]
    simp [newRow]
  · rw [if_neg h0]
    simp only [zeroValue, typeInfo, hinf, hzz, Sem.run_bind, run_program, Result.andThen_ok, Sem.run_pure]
    erw [ep, h2]
    simp [newRow]

/-! ### append -/
structure ElemOK (P : Program) (t e sz by_ : Nat) (z : Value) : Prop where
  slice : P.underlying t = some (.slice e)
  info : (P.info? e).map (fun i => (i.zero, i.size, i.bytes)) = some (some z, sz, by_)
  zs : z.cells.size = sz
  pos : 0 < sz
  byp : 0 < by_
theorem ElemOK.parts {t e sz by_ : Nat} {z : Value} (E : ElemOK P t e sz by_ z) : ∃ i, P.info? e = some i ∧ i.zero = some z ∧ i.size = sz ∧ i.bytes = by_ := by
  have := E.info
  cases hi : P.info? e with
  | none => rw [hi] at this; cases this
  | some i => rw [hi] at this; simp only [Option.map_some, Option.some.injEq, Prod.mk.injEq] at this; exact ⟨i, rfl, this.1, this.2.1, this.2.2⟩
theorem run_append2 {t e sz by_ : Nat} {z : Value} (E : ElemOK P t e sz by_ z) (ty : TypeId) {w : World} {v : Value} {n : Nat} {xs news : List Value} (ho : OwnsR w e sz v n xs) {x : Value} {p : Option Addr} {k c : Nat} (hx : x = .slice p k c) (hpn : p = none → k = 0 ∧ c = 0)
    (hl : news.length = k * sz) (hnews : ∀ q, p = some q → ∀ j u, news[j]? = some u → w.cell? (q.add j) = some u) (h1 : ones news) (hb : (n + k) * by_ ≤ 140737488355328) :
    ∃ v' w', (Builtin.append_ #[t, t] ty #[v, x]).run P w = .ok v' w' ∧ OwnsR w' e sz v' (n + k) (xs ++ news) ∧ w.grownBy w' v.ownBlock ∧ (∀ g, v'.ownBlock = some g → v.ownBlock = some g ∨ w.heap.size ≤ g) := by
  obtain ⟨i, hi, hz, h4, h5⟩ := E.parts
  have hm : n + k ≤ maxLen := by
    have := Nat.le_mul_of_pos_right (n + k) E.byp
    unfold maxLen; omega
  subst hx
  cases p with
  | none =>
    obtain ⟨rfl, rfl⟩ := hpn rfl
    have : news = [] := List.eq_nil_of_length_eq_zero (by simpa using hl)
    subst this
    refine ⟨v, w, ?_, by simpa using ho, World.grownBy.refl _ _, fun g hg => .inl hg⟩
    obtain ⟨hlx, ⟨rfl, rfl⟩ | ⟨g0, cap, cur, rfl, hB, hh, hn, hmc, hs, ht⟩⟩ := ho
    · exact run_append_owned_none (P := P) (w := w) 0 t ty e i sz E.slice hi (.slice none 0 0) 0 xs ⟨hlx, .inl ⟨rfl, rfl⟩⟩
    · simp [Builtin.append_, run_underlying E.slice, sizeOf, typeInfo, hi, Builtin.lenOf, hn, Builtin.firstCells, storeCells]
  | some q =>
    exact run_append_ownR (P := P) w t ty e i z sz by_ E.slice hi hz h4 h5 E.zs E.pos v n xs ho q k c news hl (hnews q rfl) h1 hm hb
/-- A row is grown: by another name. -/
theorem hold_grow {cx : Cx} {m : Mp} {S : Nat → Prop} {w w' : World} {H : List Blk} {id nid : Nat} (h : Hold cx m S w H) {p : Pl} (hp : m id = some p) (hS : ∀ g, p.blk = some g → ¬ S g) (hnid : H.getD nid .unborn = .unborn) (hne : id ≠ nid)
    (hg : w.grownBy w' p.blk) {v' : Value} (hlt : ∀ g, v'.ownBlock = some g → g < w'.heap.size) (hv : ∀ g, v'.ownBlock = some g → p.blk = some g ∨ w.heap.size ≤ g) {b : Blk} (hok : Keeps S w w' → Le m (updM (updM m id .gone) nid (.arr v')) → BlkOK (updM (updM m id .gone) nid (.arr v')) S w' nid b) :
    Le m (updM (updM m id .gone) nid (.arr v')) ∧ Keeps S w w' ∧ Hold cx (updM (updM m id .gone) nid (.arr v')) S w' (setAt (setAt H id .gone) nid b) := by
  have hn : m nid = none := by have := h.ok nid; rw [hnid] at this; exact this
  have hLe : Le m (updM (updM m id .gone) nid (.arr v')) := fun k q hk => by
    by_cases e1 : k = nid
    · subst e1; rw [hn] at hk; cases hk
    · by_cases e2 : k = id
      · right; simp only [updM, e1, e2, if_false, if_true]; rw [if_neg (fun e => e1 (e2.trans e))]
      · left; simp only [updM, e1, e2, if_false]; exact hk
  have := h.change (m' := updM (updM m id .gone) nid (.arr v')) (w' := w') (H' := setAt (setAt H id .gone) nid b) (fun k => k = id ∨ k = nid) hLe hg.os hg.tape hg.output hg.size (fun b hb => by
      by_cases e : some b = p.blk
      · exact .inr ⟨id, p, .inl rfl, hp, e.symm, hS b e.symm⟩
      · exact .inl (hg.block b hb e))
    (fun k hk => by
      simp only [not_or] at hk
      exact ⟨by simp only [updM, hk.1, hk.2, if_false], by rw [getD_setAt, if_neg hk.2, getD_setAt, if_neg hk.1]⟩)
    (fun hK k hk => by
      by_cases e1 : k = nid
      · subst e1; rw [getD_setAt, if_pos rfl]; exact hok hK hLe
      · have e2 : k = id := hk.resolve_right e1
        subst e2
        rw [getD_setAt, if_neg e1, getD_setAt, if_pos rfl]
        simp only [BlkOK, updM, e1, if_false, if_true])
    (fun k q b hk hq hb => by
      by_cases e1 : k = nid
      · subst e1
        simp only [updM, if_true, Option.some.injEq] at hq
        subst hq
        refine ⟨?_, hlt b hb⟩
        rcases hv b hb with h1 | h1
        · exact .inl ⟨id, p, .inl rfl, hp, h1⟩
        · exact .inr h1
      · have e2 : k = id := hk.resolve_right e1
        subst e2
        simp only [updM, e1, if_false, if_true, Option.some.injEq] at hq
        subst hq; cases hb)
    (fun k k' q q' b hk hk' hkk hq hq' hb hb' => by
      have gone : ∀ j r, (j = id ∨ j = nid) → j ≠ nid → updM (updM m id .gone) nid (.arr v') j = some r → r.blk = some b → False := fun j r hj e1 hr hb => by
        have e2 : j = id := hj.resolve_right e1
        subst e2
        simp only [updM, e1, if_false, if_true, Option.some.injEq] at hr
        subst hr; cases hb
      by_cases e1 : k = nid
      · exact gone k' q' hk' (fun e => hkk (e1.trans e.symm)) hq' hb'
      · exact gone k q hk e1 hq hb)
  exact ⟨hLe, this.2, this.1⟩
theorem cells_news {S : Nat → Prop} {w : World} {p : Option Addr} {off : Nat} {ds : List D} (h : CellsD S w p off ds) {es : List D} {k : Nat} (he : (ds.drop off).take k = es) :
    ∃ us : List Value, RepsD S w es us ∧ ones us ∧ ∀ q, p = some q → ∀ j u, us[j]? = some u → w.cell? (q.add j) = some u := by
  have hget : ∀ j, j < es.length → ∃ q u, p = some q ∧ w.cell? (q.add j) = some u ∧ u.oneCell' = true ∧ RepD S w (es[j]?.getD .nil) u := fun j hj => by
    have hx : es[j]? = some es[j] := List.getElem?_eq_getElem hj
    have hx' : ((ds.drop off).take k)[j]? = some es[j] := by rw [he]; exact hx
    rw [List.getElem?_take] at hx'
    split at hx'
    · rw [List.getElem?_drop] at hx'
      obtain ⟨q, u, h1, h2, h3, h4⟩ := h j _ hx'
      exact ⟨q, u, h1, h2, h3, by rw [hx]; exact h4⟩
    · cases hx'
  obtain ⟨f, hf⟩ : ∃ f : Nat → Value, ∀ j, j < es.length → ∃ q, p = some q ∧ w.cell? (q.add j) = some (f j) ∧ (f j).oneCell' = true ∧ RepD S w (es[j]?.getD .nil) (f j) :=
    ⟨fun j => if hj : j < es.length then Classical.choose (Classical.choose_spec (hget j hj)) else undef, fun j hj => by simp only [hj, dif_pos]; exact ⟨_, Classical.choose_spec (Classical.choose_spec (hget j hj))⟩⟩
  have get : ∀ j u, ((List.range es.length).map f)[j]? = some u → j < es.length ∧ u = f j := fun j u hu => by
    rw [List.getElem?_map] at hu
    cases hr : (List.range es.length)[j]? with
    | none => rw [hr] at hu; cases hu
    | some k =>
      rw [hr] at hu; cases hu
      obtain ⟨hjl, hk⟩ := List.getElem?_eq_some_iff.1 hr
      simp at hk hjl; subst hk; exact ⟨hjl, rfl⟩
  refine ⟨(List.range es.length).map f, ⟨by simp, fun j x v hx hv => ?_⟩, fun v hv => ?_, fun q hq j u hu => ?_⟩
  · obtain ⟨hj, rfl⟩ := get j v hv
    obtain ⟨q, _, _, _, h4⟩ := hf j hj
    rw [hx] at h4; exact h4
  · obtain ⟨j, hj, rfl⟩ := List.mem_map.1 hv
    obtain ⟨q, _, _, h3, _⟩ := hf j (by simpa using hj)
    exact h3
  · obtain ⟨hj, rfl⟩ := get j u hu
    obtain ⟨q', h1, h2, _⟩ := hf j hj
    rw [hq] at h1; cases h1; exact h2
theorem ownsRow_lt {w : World} {e sz n : Nat} {v : Value} {xs : List Value} (h : OwnsR w e sz v n xs) : ∀ g, v.ownBlock = some g → g < w.heap.size := fun g hg => h.lt g hg
/-- 'append(s, x...)', s a row of our own. -/
theorem op_append {t e sz by_ id nid n k off : Nat} {z : Value} {s x : Operand} {y : A} {xs ds es : List D} (ho : o.op = .call ⟨.builtin .append, #[s, x], #[t, t]⟩) (E : ElemOK P t e sz by_ z) (hs0 : opA st s = .own id) (hb : st.H.getD id .unborn = .arr e sz n xs) (hx : opA st x = y)
    (hy : sliceAt st.H y = some (ds, off, k)) (he : (ds.drop off).take (k * sz) = es) (hel : es.length = k * sz) (hbytes : (n + k) * by_ ≤ 140737488355328) (hnid : st.H.getD nid .unborn = .unborn) (hne : id ≠ nid) :
    OpRun P o st (locsOf [s, x] ++ (locA y ++ [.blk id, .blk nid])) (.own nid) [(id, .gone), (nid, .arr e sz (n + k) (xs ++ es))] := by
  refine .value fun st' hag cx m S a w hs => ?_
  have hnid' : st'.H.getD nid .unborn = .unborn := (blk1 (by simp) hag).trans hnid
  have hb' : st'.H.getD id .unborn = .arr e sz n xs := (blk1 (by simp) hag).trans hb
  have hrs := op_rep hs0 (R := locsOf [s, x] ++ (locA y ++ [.blk id, .blk nid])) (fun l h => by simp [locsOf, h]) hag hs
  have hrx := op_rep hx (R := locsOf [s, x] ++ (locA y ++ [.blk id, .blk nid])) (fun l h => by simp [locsOf, h]) hag hs
  rw [← sliceA_agree fun l h => hag l (by simp [h])] at hy
  obtain ⟨p, cap, hv, h1, h2, h3, h4⟩ := sliceAt_spec hs.hold hy hrx
  have hok := hs.hold.ok id
  rw [hb'] at hok
  obtain ⟨v, h5, ⟨cells, h6, h7, h8⟩, h9⟩ := hok
  simp only [Rep, h5] at hrs
  obtain ⟨hrs, _⟩ := hrs
  obtain ⟨us, k1, k2, k3⟩ := cells_news h4 he
  have hpn : p = none → k = 0 ∧ cap = 0 := h3
  obtain ⟨v', w', hrun, j1, j2, j3⟩ := run_append2 E o.type h6 hv hpn (by rw [k1.1, hel]) k3 k2 hbytes
  have hold := hold_grow (b := .arr e sz (n + k) (xs ++ es)) hs.hold h5 h9 hnid' hne j2 (ownsRow_lt j1) j3 fun hK hLe => by
    refine ⟨v', by simp only [updM, if_true], ⟨cells ++ us, j1, ?_, fun u hu => ?_⟩, fun g hg hS => ?_⟩
    · have r1 := h7.mono (fun _ h => h) hK
      have r2 := k1.mono (fun _ h => h) hK
      refine ⟨by simp [r1.1, r2.1], fun i x u hx hu => ?_⟩
      rw [List.getElem?_append] at hx hu
      rw [r1.1] at hu
      split at hx
      · rename_i hi; rw [if_pos hi] at hu; exact r1.2 i x u hx hu
      · rename_i hi; rw [if_neg hi] at hu; exact r2.2 _ x u hx hu
    · rcases List.mem_append.1 hu with hu | hu
      · exact h8 u hu
      · exact k2 u hu
    · rcases j3 g hg with h | h
      · exact h9 g h hS
      · have := (hs.hold.s g hS).2; omega
  refine ⟨v', w', _, S, ?_, hold.1, fun _ h => h, hold.2.1, hold.2.2, ?_⟩
  · simp [execOp, ho, resolve, invoke, builtin, hrs, hrun]
  · simp only [Rep, updM, if_true]
    refine ⟨trivial, ?_⟩
    obtain ⟨_, ⟨rfl, _⟩ | ⟨g, cap, cur, rfl, _⟩⟩ := j1 <;> rfl
/-- 'append(nil, x...)'. -/
theorem op_appendNil {t e sz by_ nid k off : Nat} {z : Value} {s x : Operand} {y : A} {ds es : List D} (ho : o.op = .call ⟨.builtin .append, #[s, x], #[t, t]⟩) (E : ElemOK P t e sz by_ z) (hs0 : opA st s = .d .nil) (hx : opA st x = y)
    (hy : sliceAt st.H y = some (ds, off, k)) (he : (ds.drop off).take (k * sz) = es) (hel : es.length = k * sz) (hbytes : k * by_ ≤ 140737488355328) (hnid : st.H.getD nid .unborn = .unborn) :
    OpRun P o st (locsOf [s, x] ++ (locA y ++ [.blk nid])) (.own nid) [(nid, .arr e sz k es)] := by
  refine .value fun st' hag cx m S a w hs => ?_
  have hnid' : st'.H.getD nid .unborn = .unborn := (blk1 (by simp) hag).trans hnid
  have hrs := op_rep hs0 (R := locsOf [s, x] ++ (locA y ++ [.blk nid])) (fun l h => by simp [locsOf, h]) hag hs
  have hrx := op_rep hx (R := locsOf [s, x] ++ (locA y ++ [.blk nid])) (fun l h => by simp [locsOf, h]) hag hs
  rw [← sliceA_agree fun l h => hag l (by simp [h])] at hy
  obtain ⟨p, cap, hv, h1, h2, h3, h4⟩ := sliceAt_spec hs.hold hy hrx
  simp only [Rep, RepD] at hrs
  obtain ⟨us, k1, k2, k3⟩ := cells_news h4 he
  obtain ⟨v', w', hrun, j1, j2, j3⟩ := run_append2 E o.type (w := w) (v := .slice none 0 0) (n := 0) (xs := []) ⟨by simp, .inl ⟨rfl, rfl⟩⟩ hv h3 (by rw [k1.1, hel]) k3 k2 (by simpa using hbytes)
  simp only [Nat.zero_add, List.nil_append] at j1
  have hn : m nid = none := by have := hs.hold.ok nid; rw [hnid'] at this; exact this
  have hLe : Le m (updM m nid (.arr v')) := fun k q hk => by
    by_cases e : k = nid
    · subst e; rw [hn] at hk; cases hk
    · left; simp only [updM, e, if_false]; exact hk
  have hnew : ∀ g, v'.ownBlock = some g → w.heap.size ≤ g := fun g hg => by
    rcases j3 g hg with h | h
    · simp [Value.ownBlock] at h
    · exact h
  have hold := hs.hold.change (m' := updM m nid (.arr v')) (w' := w') (H' := setAt st'.H nid (.arr e sz k es)) (fun j => j = nid) hLe j2.os j2.tape j2.output j2.size (fun b hb => .inl (j2.block b hb (by simp [Value.ownBlock])))
    (fun j hj => ⟨by simp only [updM, hj, if_false], by rw [getD_setAt, if_neg hj]⟩)
    (fun hK j hj => by
      subst hj
      rw [getD_setAt, if_pos rfl]
      exact ⟨v', by simp only [updM, if_true], ⟨us, j1, k1.mono (fun _ h => h) hK, k2⟩, fun g hg hS => by have := hnew g hg; have := (hs.hold.s g hS).2; omega⟩)
    (fun j q b hj hq hb => by
      subst hj
      simp only [updM, if_true, Option.some.injEq] at hq
      subst hq
      exact ⟨.inr (hnew b hb), ownsRow_lt j1 b hb⟩)
    (fun j j' q q' b hj hj' hne => by subst hj; subst hj'; exact absurd rfl hne)
  refine ⟨v', w', _, S, ?_, hLe, fun _ h => h, hold.2, hold.1, ?_⟩
  · simp [execOp, ho, resolve, invoke, builtin, hrs, hrun]
  · simp only [Rep, updM, if_true]
    refine ⟨trivial, ?_⟩
    obtain ⟨_, ⟨rfl, _⟩ | ⟨g, cap, cur, rfl, _⟩⟩ := j1 <;> rfl
end
end Go.Proofs.Ytdpmojhejidhiaa.K
