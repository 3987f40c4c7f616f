/- build, buildSlice, append, copy, len, make, slices, strings, parts of structs. -/
import Derived.Test.YtdpmojhejidhiaaZReg
import Derived.Laws.OwnMore
import Derived.Lib.AppendStr
import Derived.IntWalk
import Derived.Laws.AppendOwnNone
import Derived.Laws.IdiomStrings
import Derived.Laws.StructEq
import Derived.ProofKit
import Derived.OpenShut
import Derived.ShutString
import Derived.ChangeOld
import Derived.Carry
import Derived.DataElems
import Derived.Test.YtdpmojhejidhiaaProg
import Derived.ScopeJumps
import Derived.ChangeKeysEq
import Derived.Lib.AppendZeros
import Derived.Shelf.Strings.Builder1
import Derived.WalkKit
import Derived.Test.YtdpmojhejidhiaaChecked
set_option linter.unusedVariables false
set_option linter.unusedSimpArgs false
namespace Go.Proofs.Ytdpmojhejidhiaa.K
open Go.RowKit

/-! ### literals -/
def fillA (place : List (Nat × Nat)) : List A → List (Nat × A) → Option (List A)
  | ys, [] => some ys
  | ys, (i, x) :: rest => match place[i]?, cellsOf x with
    | some (off, size), some cs => match Nat.beq cs.length size, Nat.ble (off + cs.length) ys.length with
      | true, true => fillA place (putC ys off cs) rest
      | _, _ => none
    | _, _ => none
theorem fold_put : ∀ (vs : List Value) (k : Nat) (cells : Array Value) (off : Nat), off + k + vs.length ≤ cells.size →
    ((vs.zipIdx k).foldl (fun cs (p : Value × Nat) => cs.setIfInBounds (off + p.2) p.1) cells).toList = putC cells.toList (off + k) vs
  | [], k, cells, off, h => by simp [putC]
  | v :: vs, k, cells, off, h => by
    simp only [List.zipIdx_cons, List.foldl_cons]
    rw [fold_put vs (k + 1) _ off (by simp at h ⊢; omega)]
    simp only [List.length_cons] at h
    apply List.ext_getElem?
    intro i
    rw [putC_get _ _ _ _ (by simp; omega), putC_get _ _ _ _ (by simp; omega), Array.toList_setIfInBounds, List.getElem?_set]
    simp only [List.length_cons]
    by_cases h1 : i < off + k
    · rw [if_pos (by omega), if_pos h1, if_neg (by omega)]
    · by_cases h2 : i = off + k
      · subst h2
        rw [if_pos (by omega), if_neg h1, if_pos rfl, if_pos (by simp; omega), if_pos (by omega)]
        simp
      · rw [if_neg (by omega), if_neg h1]
        by_cases h3 : i < off + k + (vs.length + 1)
        · rw [if_pos (by omega), if_pos h3]
          obtain ⟨j, rfl⟩ : ∃ j, i = off + k + 1 + j := ⟨i - (off + k + 1), by omega⟩
          rw [show off + k + 1 + j - (off + (k + 1)) = j by omega, show off + k + 1 + j - (off + k) = j + 1 by omega]
          simp
        · rw [if_neg (by omega), if_neg h3, if_neg (by omega)]
section
variable {m : Mp} {S : Nat → Prop} {w : World}
theorem fill_spec {place : List (Nat × Nat)} {pl : Nat → Option (Nat × Nat)} (hpl : ∀ i q, place[i]? = some q → pl i = some q) : ∀ {parts : List (Nat × A)} {vparts : List (Nat × Value)} {ys zs : List A} {cells : Array Value}, fillA place ys parts = some zs →
    Reps m S w ys cells.toList → ones cells.toList → vparts.length = parts.length → (∀ (i k : Nat) (x : A) (v : Nat × Value), parts[i]? = some (k, x) → vparts[i]? = some v → v.1 = k ∧ Rep m S w x v.2) →
    ∃ cells', Instr.fill pl cells vparts = some cells' ∧ Reps m S w zs cells'.toList ∧ ones cells'.toList
  | [], vparts, ys, zs, cells, h, hr, h1, hl, hp => by
    simp only [fillA, Option.some.injEq] at h; subst h
    have : vparts = [] := List.eq_nil_of_length_eq_zero (by simpa using hl)
    subst this
    exact ⟨cells, rfl, hr, h1⟩
  | (k, x) :: parts, [], ys, zs, cells, h, hr, h1, hl, hp => by simp at hl
  | (k, x) :: parts, (k', v) :: vparts, ys, zs, cells, h, hr, h1, hl, hp => by
    obtain ⟨hk, hv⟩ := hp 0 k x (k', v) rfl rfl
    simp only at hk hv
    subst hk
    simp only [fillA] at h
    cases hq : place[k']? with
    | none => rw [hq] at h; simp at h
    | some q =>
      obtain ⟨off, size⟩ := q
      cases hc : cellsOf x with
      | none => rw [hq, hc] at h; simp at h
      | some cs =>
        rw [hq, hc] at h
        simp only at h
        cases hb1 : Nat.beq cs.length size with
        | false => rw [hb1] at h; simp at h
        | true =>
          cases hb2 : Nat.ble (off + cs.length) ys.length with
          | false => rw [hb1, hb2] at h; simp at h
          | true =>
            rw [hb1, hb2] at h
            simp only at h
            have hsz : cs.length = size := Nat.eq_of_beq_eq_true hb1
            have hle : off + cs.length ≤ ys.length := by simpa [Nat.ble_eq] using hb2
            obtain ⟨h2, h3⟩ := cellsOf_spec hc hv
            have hl2 := h2.length
            have hly := hr.length
            have hfold := fold_put v.cells.toList 0 cells off (by simp at hl2 hly ⊢; omega)
            rw [Nat.add_zero] at hfold
            obtain ⟨cells', h4, h5, h6⟩ := fill_spec hpl (cells := v.cells.zipIdx.foldl (fun cs (p : Value × Nat) => cs.setIfInBounds (off + p.2) p.1) cells) h
              (by
                have : (v.cells.zipIdx.foldl (fun cs (p : Value × Nat) => cs.setIfInBounds (off + p.2) p.1) cells).toList = putC cells.toList off v.cells.toList := by
                  rw [← hfold, ← Array.foldl_toList, Array.toList_zipIdx]
                rw [this]; exact hr.putC h2 off)
              (by
                have : (v.cells.zipIdx.foldl (fun cs (p : Value × Nat) => cs.setIfInBounds (off + p.2) p.1) cells).toList = putC cells.toList off v.cells.toList := by
                  rw [← hfold, ← Array.foldl_toList, Array.toList_zipIdx]
                rw [this]; exact ones_putC h1 h3 off)
              (by simpa using hl) (fun i k x u hx hu => hp (i + 1) k x u (by simpa using hx) (by simpa using hu))
            refine ⟨cells', ?_, h5, h6⟩
            simp only [Instr.fill, hpl _ _ hq]
            rw [if_neg (by simp at hl2 hly ⊢; omega)]
            exact h4
end
section
variable {P : Program} {o : Oper} {st : St}
def placesOf (P : Program) : List Field → Option (List (Nat × Nat))
  | [] => some []
  | f :: fs => match P.info? f.type, placesOf P fs with | some i, some ps => some ((f.offset, i.size) :: ps) | _, _ => none
theorem places_run : ∀ {fs : List Field} {ps : List (Nat × Nat)} (w : World), placesOf P fs = some ps → (fs.mapM (fun f : Field => (do pure (f.offset, ← sizeOf f.type) : Sem (Nat × Nat)))).run P w = .ok ps w
  | [], ps, w, h => by simp only [placesOf, Option.some.injEq] at h; subst h; simp
  | f :: fs, ps, w, h => by
    simp only [placesOf] at h
    cases hi : P.info? f.type with
    | none => rw [hi] at h; simp at h
    | some i =>
      cases hr : placesOf P fs with
      | none => rw [hi, hr] at h; simp at h
      | some qs =>
        rw [hi, hr] at h; simp only [Option.some.injEq] at h; subst h
        rw [List.mapM_cons]
        have hsz : (sizeOf f.type).run P w = .ok i.size w := info_of hi w
        simp only [Sem.run_bind, hsz, Result.andThen_ok, Sem.run_pure, places_run w hr]
def partsA (st : St) (parts : List (Nat × Operand)) : List (Nat × A) := parts.map fun p => (p.1, opA st p.2)
def partLocs (parts : List (Nat × Operand)) : List Loc := locsOf (parts.map (·.2))
theorem locs_mem : ∀ {xs : List Operand} {x : Operand}, x ∈ xs → ∀ l ∈ locOf x, l ∈ locsOf xs
  | y :: ys, x, hx, l, hl => by
    rcases List.mem_cons.1 hx with rfl | hx
    · simp [locsOf, hl]
    · simp [locsOf, locs_mem hx l hl]
theorem parts_reps {st' : St} {parts : List (Nat × Operand)} {R : List Loc} (hR : ∀ l ∈ partLocs parts, l ∈ R) (hag : ∀ l ∈ R, st'.at l = st.at l) {cx : Cx} {m : Mp} {S : Nat → Prop} {a : Act} {w : World} (hs : Sim cx m S a w st') :
    ∀ (i k : Nat) (x : A) (v : Nat × Value), (partsA st parts)[i]? = some (k, x) → (parts.map fun p => (p.1, a.eval p.2))[i]? = some v → v.1 = k ∧ Rep m S w x v.2 := by
  intro i k x v hx hv
  unfold partsA at hx
  rw [List.getElem?_map] at hx hv
  cases hi : parts[i]? with
  | none => rw [hi] at hx; cases hx
  | some p =>
    rw [hi] at hx hv; cases hx; cases hv
    exact ⟨rfl, op_rep rfl (fun l hl => hR l (locs_mem (List.mem_map.2 ⟨p, List.mem_of_getElem? hi, rfl⟩) l hl)) hag hs⟩
theorem op_build {t : TypeId} {parts : List (Nat × Operand)} {fs : Array Field} {place : List (Nat × Nat)} {zs ys : List A} (ho : o.op = .build t parts.toArray) (hu : P.underlying t = some (.struct fs)) (hp : placesOf P fs.toList = some place) (hz : zeroA P t = some zs)
    (hf : fillA place zs (partsA st parts) = some ys) : OpRun P o st (partLocs parts) (.agg ys) [] := by
  refine .pure fun st' hag cx m S a w hs => ?_
  obtain ⟨i, z, hi, hzz, h1, rfl⟩ := zeroA_spec hz
  have hpl : (fs.mapM (fun f : Field => (do pure (f.offset, ← sizeOf f.type) : Sem (Nat × Nat)))).run P w = .ok place.toArray w := by
    have : fs = fs.toList.toArray := by simp
    rw [this, List.mapM_toArray]
    simp only [Sem.run_map, places_run w hp, Result.andThen_ok]
  obtain ⟨cells, h2, h3, h4⟩ := fill_spec (m := m) (S := S) (w := w) (pl := fun i => place.toArray[i]?) (fun i q h => by simpa using h) (vparts := parts.map fun p => (p.1, a.eval p.2)) hf (litAs_rep z.cells.toList) h1 (by simp [partsA]) (parts_reps (fun _ h => h) hag hs)
  refine ⟨.agg cells, ?_, by simp only [Rep]; exact ⟨_, rfl, h3⟩⟩
  have e : (parts.toArray.map fun p : Nat × Operand => (p.1, a.eval p.2)).toList = parts.map fun p => (p.1, a.eval p.2) := by simp
  simp only [execOp, ho, Instr.build, Sem.run_bind]
  simp only [zeroValue, typeInfo, hi, hzz, Sem.run_bind, run_program, Result.andThen_ok, Sem.run_pure, run_underlying hu]
  erw [hpl]
  simp only [Result.andThen_ok]
  erw [e, h2]
  rfl
end
end Go.Proofs.Ytdpmojhejidhiaa.K

namespace Go.Proofs.Ytdpmojhejidhiaa.K
open Go.RowKit

section
variable {P : Program} {o : Oper} {st : St}
theorem blk1 {st' : St} {R : List Loc} {id : Nat} (hR : Loc.blk id ∈ R) (hag : ∀ l ∈ R, st'.at l = st.at l) : st'.H.getD id .unborn = st.H.getD id .unborn :=
  blk_agree (st := st) (st' := st') (ids := [id]) (fun l h => hag l (by simp [blks] at h; subst h; exact hR)) (by simp)
/-! ### slice literals -/
theorem op_buildSlice {t e sz len id : Nat} {parts : List (Nat × Operand)} {zs ys : List A} {ds : List D} (ho : o.op = .buildSlice t len parts.toArray) (he : sliceElem P t = some (e, sz)) (hz : zeroA P e = some zs) (hzl : zs.length = sz) (hsz : 0 < sz)
    (hbig : Nat.ble (len * sz) 16777216 = true) (hf : fillA ((List.range len).map fun i => (i * sz, sz)) (List.replicate (len * sz) .top) (partsA st parts) = some ys) (hd : toDs ys = some ds) (hyl : ys.length = len * sz) (hid : st.H.getD id .unborn = .unborn) :
    OpRun P o st (partLocs parts ++ [.blk id]) (.own id) [(id, .arr e sz len ds)] := by
  refine .value fun st' hag cx m S a w hs => ?_
  have hid' : st'.H.getD id .unborn = .unborn := (blk1 (by simp) hag).trans hid
  obtain ⟨hu, inf, hinf, hsz'⟩ := sliceElem_spec he
  obtain ⟨i, z, hi, hzz, h1, rfl⟩ := zeroA_spec hz
  rw [hinf] at hi; cases hi
  have hzs : z.cells.size = sz := by simpa using hzl
  have hle : len * sz ≤ 16777216 := by simpa [Nat.ble_eq] using hbig
  have ones0 : ones ((Array.range (len * sz)).map (fun k => z.cells[k % z.cells.size]!)).toList := by
    intro v hv
    simp only [Array.toList_map, Array.toList_range, List.mem_map, List.mem_range] at hv
    obtain ⟨k, hk, rfl⟩ := hv
    have hlt : k % z.cells.size < z.cells.size := Nat.mod_lt _ (by omega)
    rw [getElem!_pos z.cells _ hlt]
    exact h1 _ (by simp)
  have reps0 : Reps m S w (List.replicate (len * sz) A.top) ((Array.range (len * sz)).map (fun k => z.cells[k % z.cells.size]!)).toList := Reps.of (by simp) fun j x v hx hv => by
    rw [List.getElem?_replicate] at hx
    split at hx
    · cases hx; simp only [Rep]
    · cases hx
  obtain ⟨cells, h2, h3, h4⟩ := fill_spec (m := m) (S := S) (w := w) (pl := fun i => some (i * sz, sz)) (fun i q h => by
      rw [List.getElem?_map] at h
      cases hr : (List.range len)[i]? with
      | none => rw [hr] at h; cases h
      | some k =>
        rw [hr] at h; cases h
        obtain ⟨hjl, hk⟩ := List.getElem?_eq_some_iff.1 hr
        simp at hk; subst hk; rfl) (vparts := parts.map fun p => (p.1, a.eval p.2)) hf reps0 ones0 (by simp [partsA]) (parts_reps (R := partLocs parts ++ [.blk id]) (fun l h => by simp [h]) hag hs)
  have hl3 := h3.length
  have hlen : cells.size = len * sz := by simp at hl3; omega
  have hmx : len ≤ maxLen := by
    have := Nat.le_mul_of_pos_right len hsz
    unfold maxLen; omega
  obtain ⟨m', k1, k2, k3, k4⟩ := hold_row (e := e) (sz := sz) (n := len) (cap := len) (cur := cells) hs.hold hid' (toDs_reps hd h3) h4 (by simpa using hlen) (Nat.le_refl _) hmx hlen (by rw [List.take_of_length_le (by simp [hlen])])
  refine ⟨_, _, m', S, ?_, k1, fun _ h => h, k2, k3, k4 _⟩
  have ep : (parts.toArray.map fun p : Nat × Operand => (p.1, a.eval p.2)).toList = parts.map fun p => (p.1, a.eval p.2) := by simp
  simp only [execOp, ho, Instr.buildSlice, Sem.run_bind]
  simp only [run_underlying hu, sizeOf, typeInfo, hinf, Sem.run_bind, run_program, Result.andThen_ok, Sem.run_pure, hsz']
  rw [if_neg (by omega)]
  by_cases h0 : len * sz = 0
  · rw [if_pos h0]
    simp only [Sem.run_bind, Sem.run_pure, Result.andThen_ok]
    have e0 : ((Array.range (len * sz)).map (fun k => (#[] : Array Value)[k % (#[] : Array Value).size]!)) = ((Array.range (len * sz)).map (fun k => z.cells[k % z.cells.size]!)) := by
      rw [h0]; simp [Array.range]
    erw [e0, ep, h2]
    simp [newRow]
  · rw [if_neg h0]
    simp only [zeroValue, typeInfo, hinf, hzz, Sem.run_bind, run_program, Result.andThen_ok, Sem.run_pure]
    erw [ep, h2]
    simp [newRow]

/-! ### append -/
structure ElemOK (P : Program) (t e sz by_ : Nat) (z : Value) : Prop where
  slice : P.underlying t = some (.slice e)
  info : (P.info? e).map (fun i => (i.zero, i.size, i.bytes)) = some (some z, sz, by_)
  zs : z.cells.size = sz
  pos : 0 < sz
  byp : 0 < by_
theorem ElemOK.parts {t e sz by_ : Nat} {z : Value} (E : ElemOK P t e sz by_ z) : ∃ i, P.info? e = some i ∧ i.zero = some z ∧ i.size = sz ∧ i.bytes = by_ := by
  have := E.info
  cases hi : P.info? e with
  | none => rw [hi] at this; cases this
  | some i => rw [hi] at this; simp only [Option.map_some, Option.some.injEq, Prod.mk.injEq] at this; exact ⟨i, rfl, this.1, this.2.1, this.2.2⟩
theorem run_append2 {t e sz by_ : Nat} {z : Value} (E : ElemOK P t e sz by_ z) (ty : TypeId) {w : World} {v : Value} {n : Nat} {xs news : List Value} (ho : OwnsR w e sz v n xs) {x : Value} {p : Option Addr} {k c : Nat} (hx : x = .slice p k c) (hpn : p = none → k = 0 ∧ c = 0)
    (hl : news.length = k * sz) (hnews : ∀ q, p = some q → ∀ j u, news[j]? = some u → w.cell? (q.add j) = some u) (h1 : ones news) (hb : (n + k) * by_ ≤ 140737488355328) :
    ∃ v' w', (Builtin.append_ #[t, t] ty #[v, x]).run P w = .ok v' w' ∧ OwnsR w' e sz v' (n + k) (xs ++ news) ∧ w.grownBy w' v.ownBlock ∧ (∀ g, v'.ownBlock = some g → v.ownBlock = some g ∨ w.heap.size ≤ g) := by
  obtain ⟨i, hi, hz, h4, h5⟩ := E.parts
  have hm : n + k ≤ maxLen := by
    have := Nat.le_mul_of_pos_right (n + k) E.byp
    unfold maxLen; omega
  subst hx
  cases p with
  | none =>
    obtain ⟨rfl, rfl⟩ := hpn rfl
    have : news = [] := List.eq_nil_of_length_eq_zero (by simpa using hl)
    subst this
    refine ⟨v, w, ?_, by simpa using ho, World.grownBy.refl _ _, fun g hg => .inl hg⟩
    obtain ⟨hlx, ⟨rfl, rfl⟩ | ⟨g0, cap, cur, rfl, hB, hh, hn, hmc, hs, ht⟩⟩ := ho
    · exact run_append_owned_none (P := P) (w := w) 0 t ty e i sz E.slice hi (.slice none 0 0) 0 xs ⟨hlx, .inl ⟨rfl, rfl⟩⟩
    · simp [Builtin.append_, run_underlying E.slice, sizeOf, typeInfo, hi, Builtin.lenOf, hn, Builtin.firstCells, storeCells]
  | some q =>
    exact run_append_ownR (P := P) w t ty e i z sz by_ E.slice hi hz h4 h5 E.zs E.pos v n xs ho q k c news hl (hnews q rfl) h1 hm hb
/-- A row is grown: by another name. -/
theorem hold_grow {cx : Cx} {m : Mp} {S : Nat → Prop} {w w' : World} {H : List Blk} {id nid : Nat} (h : Hold cx m S w H) {p : Pl} (hp : m id = some p) (hS : ∀ g, p.blk = some g → ¬ S g) (hnid : H.getD nid .unborn = .unborn) (hne : id ≠ nid)
    (hg : w.grownBy w' p.blk) {v' : Value} (hlt : ∀ g, v'.ownBlock = some g → g < w'.heap.size) (hv : ∀ g, v'.ownBlock = some g → p.blk = some g ∨ w.heap.size ≤ g) {b : Blk} (hok : Keeps S w w' → Le m (updM (updM m id .gone) nid (.arr v')) → BlkOK (updM (updM m id .gone) nid (.arr v')) S w' nid b) :
    Le m (updM (updM m id .gone) nid (.arr v')) ∧ Keeps S w w' ∧ Hold cx (updM (updM m id .gone) nid (.arr v')) S w' (setAt (setAt H id .gone) nid b) := by
  have hn : m nid = none := by have := h.ok nid; rw [hnid] at this; exact this
  have hLe : Le m (updM (updM m id .gone) nid (.arr v')) := fun k q hk => by
    by_cases e1 : k = nid
    · subst e1; rw [hn] at hk; cases hk
    · by_cases e2 : k = id
      · right; simp only [updM, e1, e2, if_false, if_true]; rw [if_neg (fun e => e1 (e2.trans e))]
      · left; simp only [updM, e1, e2, if_false]; exact hk
  have := h.change (m' := updM (updM m id .gone) nid (.arr v')) (w' := w') (H' := setAt (setAt H id .gone) nid b) (fun k => k = id ∨ k = nid) hLe hg.os hg.tape hg.output hg.size (fun b hb => by
      by_cases e : some b = p.blk
      · exact .inr ⟨id, p, .inl rfl, hp, e.symm, hS b e.symm⟩
      · exact .inl (hg.block b hb e))
    (fun k hk => by
      simp only [not_or] at hk
      exact ⟨by simp only [updM, hk.1, hk.2, if_false], by rw [getD_setAt, if_neg hk.2, getD_setAt, if_neg hk.1]⟩)
    (fun hK k hk => by
      by_cases e1 : k = nid
      · subst e1; rw [getD_setAt, if_pos rfl]; exact hok hK hLe
      · have e2 : k = id := hk.resolve_right e1
        subst e2
        rw [getD_setAt, if_neg e1, getD_setAt, if_pos rfl]
        simp only [BlkOK, updM, e1, if_false, if_true])
    (fun k q b hk hq hb => by
      by_cases e1 : k = nid
      · subst e1
        simp only [updM, if_true, Option.some.injEq] at hq
        subst hq
        refine ⟨?_, hlt b hb⟩
        rcases hv b hb with h1 | h1
        · exact .inl ⟨id, p, .inl rfl, hp, h1⟩
        · exact .inr h1
      · have e2 : k = id := hk.resolve_right e1
        subst e2
        simp only [updM, e1, if_false, if_true, Option.some.injEq] at hq
        subst hq; cases hb)
    (fun k k' q q' b hk hk' hkk hq hq' hb hb' => by
      have gone : ∀ j r, (j = id ∨ j = nid) → j ≠ nid → updM (updM m id .gone) nid (.arr v') j = some r → r.blk = some b → False := fun j r hj e1 hr hb => by
        have e2 : j = id := hj.resolve_right e1
        subst e2
        simp only [updM, e1, if_false, if_true, Option.some.injEq] at hr
        subst hr; cases hb
      by_cases e1 : k = nid
      · exact gone k' q' hk' (fun e => hkk (e1.trans e.symm)) hq' hb'
      · exact gone k q hk e1 hq hb)
  exact ⟨hLe, this.2, this.1⟩
theorem cells_news {S : Nat → Prop} {w : World} {p : Option Addr} {off : Nat} {ds : List D} (h : CellsD S w p off ds) {es : List D} {k : Nat} (he : (ds.drop off).take k = es) :
    ∃ us : List Value, RepsD S w es us ∧ ones us ∧ ∀ q, p = some q → ∀ j u, us[j]? = some u → w.cell? (q.add j) = some u := by
  have hget : ∀ j, j < es.length → ∃ q u, p = some q ∧ w.cell? (q.add j) = some u ∧ u.oneCell' = true ∧ RepD S w (es[j]?.getD .nil) u := fun j hj => by
    have hx : es[j]? = some es[j] := List.getElem?_eq_getElem hj
    have hx' : ((ds.drop off).take k)[j]? = some es[j] := by rw [he]; exact hx
    rw [List.getElem?_take] at hx'
    split at hx'
    · rw [List.getElem?_drop] at hx'
      obtain ⟨q, u, h1, h2, h3, h4⟩ := h j _ hx'
      exact ⟨q, u, h1, h2, h3, by rw [hx]; exact h4⟩
    · cases hx'
  obtain ⟨f, hf⟩ : ∃ f : Nat → Value, ∀ j, j < es.length → ∃ q, p = some q ∧ w.cell? (q.add j) = some (f j) ∧ (f j).oneCell' = true ∧ RepD S w (es[j]?.getD .nil) (f j) :=
    ⟨fun j => if hj : j < es.length then Classical.choose (Classical.choose_spec (hget j hj)) else undef, fun j hj => by simp only [hj, dif_pos]; exact ⟨_, Classical.choose_spec (Classical.choose_spec (hget j hj))⟩⟩
  have get : ∀ j u, ((List.range es.length).map f)[j]? = some u → j < es.length ∧ u = f j := fun j u hu => by
    rw [List.getElem?_map] at hu
    cases hr : (List.range es.length)[j]? with
    | none => rw [hr] at hu; cases hu
    | some k =>
      rw [hr] at hu; cases hu
      obtain ⟨hjl, hk⟩ := List.getElem?_eq_some_iff.1 hr
      simp at hk hjl; subst hk; exact ⟨hjl, rfl⟩
  refine ⟨(List.range es.length).map f, ⟨by simp, fun j x v hx hv => ?_⟩, fun v hv => ?_, fun q hq j u hu => ?_⟩
  · obtain ⟨hj, rfl⟩ := get j v hv
    obtain ⟨q, _, _, _, h4⟩ := hf j hj
    rw [hx] at h4; exact h4
  · obtain ⟨j, hj, rfl⟩ := List.mem_map.1 hv
    obtain ⟨q, _, _, h3, _⟩ := hf j (by simpa using hj)
    exact h3
  · obtain ⟨hj, rfl⟩ := get j u hu
    obtain ⟨q', h1, h2, _⟩ := hf j hj
    rw [hq] at h1; cases h1; exact h2
theorem ownsRow_lt {w : World} {e sz n : Nat} {v : Value} {xs : List Value} (h : OwnsR w e sz v n xs) : ∀ g, v.ownBlock = some g → g < w.heap.size := fun g hg => h.lt g hg
/-- 'append(s, x...)', s a row of our own. -/
theorem op_append {t e sz by_ id nid n k off : Nat} {z : Value} {s x : Operand} {y : A} {xs ds es : List D} (ho : o.op = .call ⟨.builtin .append, #[s, x], #[t, t]⟩) (E : ElemOK P t e sz by_ z) (hs0 : opA st s = .own id) (hb : st.H.getD id .unborn = .arr e sz n xs) (hx : opA st x = y)
    (hy : sliceAt st.H y = some (ds, off, k)) (he : (ds.drop off).take (k * sz) = es) (hel : es.length = k * sz) (hbytes : (n + k) * by_ ≤ 140737488355328) (hnid : st.H.getD nid .unborn = .unborn) (hne : id ≠ nid) :
    OpRun P o st (locsOf [s, x] ++ (locA y ++ [.blk id, .blk nid])) (.own nid) [(id, .gone), (nid, .arr e sz (n + k) (xs ++ es))] := by
  refine .value fun st' hag cx m S a w hs => ?_
  have hnid' : st'.H.getD nid .unborn = .unborn := (blk1 (by simp) hag).trans hnid
  have hb' : st'.H.getD id .unborn = .arr e sz n xs := (blk1 (by simp) hag).trans hb
  have hrs := op_rep hs0 (R := locsOf [s, x] ++ (locA y ++ [.blk id, .blk nid])) (fun l h => by simp [locsOf, h]) hag hs
  have hrx := op_rep hx (R := locsOf [s, x] ++ (locA y ++ [.blk id, .blk nid])) (fun l h => by simp [locsOf, h]) hag hs
  rw [← sliceA_agree fun l h => hag l (by simp [h])] at hy
  obtain ⟨p, cap, hv, h1, h2, h3, h4⟩ := sliceAt_spec hs.hold hy hrx
  have hok := hs.hold.ok id
  rw [hb'] at hok
  obtain ⟨v, h5, ⟨cells, h6, h7, h8⟩, h9⟩ := hok
  simp only [Rep, h5] at hrs
  obtain ⟨hrs, _⟩ := hrs
  obtain ⟨us, k1, k2, k3⟩ := cells_news h4 he
  have hpn : p = none → k = 0 ∧ cap = 0 := h3
  obtain ⟨v', w', hrun, j1, j2, j3⟩ := run_append2 E o.type h6 hv hpn (by rw [k1.1, hel]) k3 k2 hbytes
  have hold := hold_grow (b := .arr e sz (n + k) (xs ++ es)) hs.hold h5 h9 hnid' hne j2 (ownsRow_lt j1) j3 fun hK hLe => by
    refine ⟨v', by simp only [updM, if_true], ⟨cells ++ us, j1, ?_, fun u hu => ?_⟩, fun g hg hS => ?_⟩
    · have r1 := h7.mono (fun _ h => h) hK
      have r2 := k1.mono (fun _ h => h) hK
      refine ⟨by simp [r1.1, r2.1], fun i x u hx hu => ?_⟩
      rw [List.getElem?_append] at hx hu
      rw [r1.1] at hu
      split at hx
      · rename_i hi; rw [if_pos hi] at hu; exact r1.2 i x u hx hu
      · rename_i hi; rw [if_neg hi] at hu; exact r2.2 _ x u hx hu
    · rcases List.mem_append.1 hu with hu | hu
      · exact h8 u hu
      · exact k2 u hu
    · rcases j3 g hg with h | h
      · exact h9 g h hS
      · have := (hs.hold.s g hS).2; omega
  refine ⟨v', w', _, S, ?_, hold.1, fun _ h => h, hold.2.1, hold.2.2, ?_⟩
  · simp [execOp, ho, resolve, invoke, builtin, hrs, hrun]
  · simp only [Rep, updM, if_true]
    refine ⟨trivial, ?_⟩
    obtain ⟨_, ⟨rfl, _⟩ | ⟨g, cap, cur, rfl, _⟩⟩ := j1 <;> rfl
end
end Go.Proofs.Ytdpmojhejidhiaa.K

namespace Go.Proofs.Ytdpmojhejidhiaa.K
open Go.RowKit Go.Lib

def byteD (b : UInt8) : D := .lit (.int .u8 b.toNat)
def bytesD (l : List UInt8) : List D := l.map byteD
@[simp] theorem bytesD_length (l : List UInt8) : (bytesD l).length = l.length := by simp [bytesD]
section
variable {P : Program} {o : Oper} {st : St}
theorem op_len_str {t : TypeId} {x : Operand} {s : ByteArray} (ho : o.op = .call ⟨.builtin .len, #[x], #[t]⟩) (hu : P.underlying t = some .string) (hx : opA st x = .d (.lit (.string s))) : OpRun P o st (locOf x) (.d (.lit (.int .i64 s.size))) [] := by
  refine .pure fun st' hl cx m S a w hs => ⟨.int .i64 s.size, ?_, by simp only [Rep]; unfold RepD; exact ⟨rfl, rfl⟩⟩
  have h1 := op_lit hx (fun _ h => h) hl hs
  simp [execOp, ho, resolve, invoke, builtin, Builtin.len_, run_underlying hu, h1, goInt]
theorem op_len {t e : TypeId} {x : Operand} {y : A} {ds : List D} {off n : Nat} (ho : o.op = .call ⟨.builtin .len, #[x], #[t]⟩) (hu : P.underlying t = some (.slice e)) (hx : opA st x = y) (hy : sliceAt st.H y = some (ds, off, n)) : OpRun P o st (locOf x ++ locA y) (.d (.lit (.int .i64 n))) [] := by
  refine .pure fun st' hag cx m S a w hs => ⟨.int .i64 n, ?_, by simp only [Rep]; unfold RepD; exact ⟨rfl, rfl⟩⟩
  have hr := op_rep hx (R := locOf x ++ locA y) (fun l h => by simp [h]) hag hs
  rw [← sliceA_agree fun l h => hag l (by simp [h])] at hy
  obtain ⟨p, cap, hv, _⟩ := sliceAt_spec hs.hold hy hr
  simp [execOp, ho, resolve, invoke, builtin, Builtin.len_, run_underlying hu, hv, goInt]
theorem op_bi2 {b : Builtin} {t u : TypeId} {x y : Operand} {a1 a2 v : Value} (ho : o.op = .call ⟨.builtin b, #[x, y], #[t, u]⟩) (hx : opA st x = .d (.lit a1)) (hy : opA st y = .d (.lit a2)) (hrun : ∀ ty cs w, (builtin b #[t, u] ty cs #[a1, a2]).run P w = .ok (.value v) w) (h1 : v.oneCell' = true := by rfl) :
    OpRun P o st (locsOf [x, y]) (.d (.lit v)) [] := by
  refine .pure fun st' hl cx m S a w hs => ⟨v, ?_, by simp only [Rep]; unfold RepD; exact ⟨rfl, h1⟩⟩
  have e1 := op_lit hx (R := locsOf [x, y]) (fun l h => by simp [locsOf, h]) hl hs
  have e2 := op_lit hy (R := locsOf [x, y]) (fun l h => by simp [locsOf, h]) hl hs
  simp [execOp, ho, resolve, invoke, e1, e2]
  exact hrun _ _ w
/-! ### copy -/
/-! ### strings, bytes -/
theorem op_str {t u e : TypeId} {x : Operand} {y : A} {ds : List D} {off n : Nat} {l : List UInt8} (ho : o.op = .convert t u x) (hs0 : P.underlying t = some (.slice e)) (he : P.underlying e = some (.int .u8)) (hd : P.underlying u = some .string) (hx : opA st x = y) (hy : sliceAt st.H y = some (ds, off, n))
    (hl : (ds.drop off).take n = bytesD l) (hn : l.length = n) : OpRun P o st (locOf x ++ locA y) (.d (.lit (.string ⟨l.toArray⟩))) [] := by
  refine .pure fun st' hag cx m S a w hs => ⟨.string ⟨l.toArray⟩, ?_, by simp only [Rep]; unfold RepD; exact ⟨rfl, rfl⟩⟩
  have hr := op_rep hx (R := locOf x ++ locA y) (fun l h => by simp [h]) hag hs
  rw [← sliceA_agree fun l h => hag l (by simp [h])] at hy
  obtain ⟨p, cap, hv, h1, h2, h3, h4⟩ := sliceAt_spec hs.hold hy hr
  have : (convert t u (a.eval x)).run P w = .ok (.string ⟨l.toArray⟩) w := by
    rw [hv]
    cases p with
    | none =>
      obtain ⟨h5, _⟩ := h3 rfl
      have : l = [] := List.eq_nil_of_length_eq_zero (by omega)
      subst this
      exact run_convert_bytes_nil w t e hs0 he n cap u hd
    | some q =>
      subst hn
      refine run_convert_bytes_back w t u e q cap l hs0 he hd fun j hj => ?_
      obtain ⟨us, k1, k2, k3⟩ := cells_news h4 hl
      have hju : us[j]? = some (us[j]'(by rw [k1.1, bytesD_length]; exact hj)) := List.getElem?_eq_getElem _
      have := k1.2 j (byteD l[j]) _ (by simp [bytesD, hj]) hju
      unfold byteD RepD at this
      rw [k3 q rfl j _ hju, this.1]
  simp only [execOp, ho]
  rw [Sem.run_bind, this]; rfl
theorem op_index_str {t : TypeId} {x ix : Operand} {s : ByteArray} {k : IntKind} {iv : Int} {i : Nat} {b : UInt8} (ho : o.op = .index t x ix) (hu : P.underlying t = some .string) (hx : opA st x = .d (.lit (.string s))) (hi : opA st ix = .d (.lit (.int k iv))) (hiv : iv = (i : Int)) (hb : s.data.toList[i]? = some b) :
    OpRun P o st (locsOf [x, ix]) (.d (.lit (.int .u8 b.toNat))) [] := by
  refine .pure fun st' hl cx m S a w hs => ⟨.int .u8 b.toNat, ?_, by simp only [Rep]; unfold RepD; exact ⟨rfl, rfl⟩⟩
  have e1 := op_lit hx (R := locsOf [x, ix]) (fun l h => by simp [locsOf, h]) hl hs
  have e2 := op_lit hi (R := locsOf [x, ix]) (fun l h => by simp [locsOf, h]) hl hs
  subst hiv
  have hs' : s[i]? = some b := by
    have h1 : i < s.data.toList.length := (List.getElem?_eq_some_iff.1 hb).1
    have h2 : i < s.size := by simpa using h1
    rw [getElem?_pos s i h2, ByteArray.getElem_eq_getElem_data]
    have := (List.getElem?_eq_some_iff.1 hb).2
    simpa using this
  simp [execOp, ho, Instr.index, e1, e2, asIntOf, run_underlying hu, hs']
end
end Go.Proofs.Ytdpmojhejidhiaa.K

namespace Go.Proofs.Ytdpmojhejidhiaa.K
open Go.RowKit Go.Lib

/-! ### forgetting, other names -/
def wkL (ids : List Nat) : List A → List A → Prop
  | [], [] => True
  | x :: xs, y :: ys => (x = .top ∨ x.ren ids = some y) ∧ wkL ids xs ys
  | _, _ => False
def wkB (ids : List Nat) : Blk → Blk → Prop
  | .box xs, .box ys => wkL ids xs ys
  | b, b' => b.ren ids = some b'
theorem wkL_reps {ids : List Nat} {m : Mp} {S : Nat → Prop} {w : World} : ∀ {xs ys : List A} {vs : List Value}, wkL ids xs ys → Reps m S w ys vs → Reps (via ids m) S w xs vs
  | [], [], vs, _, h => by simpa only [Reps] using h
  | x :: xs, y :: ys, vs, hw, h => by
    simp only [Reps] at h ⊢
    obtain ⟨v, r, rfl, h1, h2⟩ := h
    refine ⟨v, r, rfl, ?_, wkL_reps hw.2 h2⟩
    rcases hw.1 with rfl | he
    · simp only [Rep]
    · exact (Rep.via x y v he).2 h1
  | [], _ :: _, _, hw, _ => hw.elim
  | _ :: _, [], _, hw, _ => hw.elim
theorem wkB_ok {ids : List Nat} {m : Mp} {S : Nat → Prop} {w : World} {j k : Nat} {b b' : Blk} (hk : ids[j]? = some k) (hw : wkB ids b b') (h : BlkOK m S w k b') : BlkOK (via ids m) S w j b := by
  have gen : b.ren ids = some b' → BlkOK (via ids m) S w j b := fun hr => (BlkOK.via hk hr).2 h
  cases b with
  | box xs =>
    cases b' with
    | box ys =>
      obtain ⟨b, cells, T, h1, h2, h3, h4, h5⟩ := h
      exact ⟨b, cells, T, by simp [K.via, hk, h1], h2, wkL_reps hw h3, h4, h5⟩
    | _ => exact gen hw
  | _ => exact gen hw
/-- The state st' says no more than st: its block j is the block ids[j] there. -/
theorem Weak.to {st st' : St} (ids : List Nat) (hk : st'.k = st.k) (hn : ids.Nodup) (hl : ids.length = st'.H.length) (hpre : st.k ≤ ids.length ∧ ids.take st.k = List.range st.k)
    (hH : ∀ (j i : Nat), ids[j]? = some i → wkB ids (st'.H.getD j .unborn) (st.H.getD i .unborn)) (he : wkL ids st'.env st.env) : Weak st st' := by
  intro cx m S a w hs
  have h := hs.hold
  refine ⟨via ids m, S, ⟨⟨h.os, h.tape, h.output, h.size, h.old, h.s0, h.s, fun id p b hp hb => ?_, fun id id' p p' b hne hp hp' hb => ?_, fun j => ?_, fun id p hp => ?_⟩, wkL_reps he hs.env, hs.df, by rw [hk]; exact hs.pre⟩⟩
  · obtain ⟨k, _, hk⟩ := via_some hp; exact h.pl k p b hk hb
  · obtain ⟨k, h1, hk⟩ := via_some hp
    obtain ⟨k', h1', hk'⟩ := via_some hp'
    refine h.apart k k' p p' b (fun he => hne ?_) hk hk' hb
    subst he
    exact (List.getElem?_inj (List.getElem?_eq_some_iff.1 h1).1 hn).1 (h1.trans h1'.symm)
  · rcases Nat.lt_or_ge j ids.length with hj | hj
    · have hkj : ids[j]? = some ids[j] := List.getElem?_eq_getElem hj
      exact wkB_ok hkj (hH j _ hkj) (h.ok _)
    · rw [getD_none (by rw [← hl]; exact hj)]
      simp only [BlkOK, K.via, List.getElem?_eq_none hj, Option.bind_none]
  · have hid : id < st.k := by
      rcases Nat.lt_or_ge id st.k with h1 | h1
      · exact h1
      · rw [hs.pre id h1] at hp; cases hp
    have hki : ids[id]? = some id := by
      have : (ids.take st.k)[id]? = some id := by rw [hpre.2, List.getElem?_range hid]
      rwa [List.getElem?_take, if_pos hid] at this
    simp only [K.via, hki, Option.bind_some]
    exact h.le id p hp
/-- A nil slice is an own row of none. -/
def wkN (nid : Nat) : List A → List A → Prop
  | [], [] => True
  | x :: xs, y :: ys => (x = y ∨ (x = .own nid ∧ y = .d .nil)) ∧ wkN nid xs ys
  | _, _ => False
theorem wkN_reps {nid : Nat} {m m' : Mp} {S : Nat → Prop} {w : World} (hm : Le m m') (hn : m' nid = some (.arr (.slice none 0 0))) : ∀ {xs ys : List A} {vs : List Value}, wkN nid xs ys → Reps m S w ys vs → Reps m' S w xs vs
  | [], [], vs, _, h => by simpa only [Reps] using h
  | x :: xs, y :: ys, vs, hw, h => by
    simp only [Reps] at h ⊢
    obtain ⟨v, r, rfl, h1, h2⟩ := h
    refine ⟨v, r, rfl, ?_, wkN_reps hm hn hw.2 h2⟩
    rcases hw.1 with rfl | ⟨rfl, rfl⟩
    · exact Rep.mono hm (fun _ h => h) (Keeps.refl S w) _ _ h1
    · simp only [Rep, RepD] at h1
      subst h1
      simp only [Rep, hn]
      exact ⟨trivial, rfl⟩
  | [], _ :: _, _, hw, _ => hw.elim
  | _ :: _, [], _, hw, _ => hw.elim
theorem Weak.own {st st' : St} (nid e sz : Nat) (hnid : st.H.getD nid .unborn = .unborn) (hk : st'.k = st.k) (he : wkN nid st'.env st.env) (hH : st'.H.getD nid .unborn = .arr e sz 0 [])
    (ho : ∀ j, j ≠ nid → st'.H.getD j .unborn = st.H.getD j .unborn ∨ ∃ xs ys, st'.H.getD j .unborn = .box xs ∧ st.H.getD j .unborn = .box ys ∧ wkN nid xs ys) : Weak st st' := by
  intro cx m S a w hs
  have h := hs.hold
  have hn : m nid = none := by have := h.ok nid; rw [hnid] at this; exact this
  have hLe : Le m (updM m nid (.arr (.slice none 0 0))) := fun k q hq => by
    by_cases e1 : k = nid
    · subst e1; rw [hn] at hq; cases hq
    · left; simp only [updM, e1, if_false]; exact hq
  have hnew : updM m nid (.arr (.slice none 0 0)) nid = some (.arr (.slice none 0 0)) := by simp only [updM, if_true]
  have hne : ∀ j, j ≠ nid → updM m nid (.arr (.slice none 0 0)) j = m j := fun j hj => by simp only [updM, hj, if_false]
  have blkNil : ∀ {id p b}, updM m nid (.arr (.slice none 0 0)) id = some p → p.blk = some b → m id = some p := fun {id p b} hp hb => by
    by_cases e1 : id = nid
    · subst e1; rw [hnew] at hp; cases hp; simp [Pl.blk, Value.ownBlock] at hb
    · rw [hne id e1] at hp; exact hp
  refine ⟨_, S, ⟨⟨h.os, h.tape, h.output, h.size, h.old, h.s0, h.s, fun id p b hp hb => h.pl id p b (blkNil hp hb) hb, fun id id' p p' b hd hp hp' hb hb' => h.apart id id' p p' b hd (blkNil hp hb) (blkNil hp' hb') hb hb', fun j => ?_, h.le.trans hLe⟩,
    wkN_reps hLe hnew he hs.env, hs.df, by rw [hk]; exact hs.pre⟩⟩
  by_cases hj : j = nid
  · subst hj
    rw [hH]
    exact ⟨_, hnew, ⟨[], OwnsR.nil w e sz, ⟨rfl, fun i x v hx => by simp at hx⟩, fun v hv => by cases hv⟩, fun g hg => by simp [Value.ownBlock] at hg⟩
  · rcases ho j hj with h1 | ⟨xs, ys, h1, h2, h3⟩
    · rw [h1]
      exact (h.ok j).mono (hne j hj) hLe (fun _ h => h) (Keeps.refl S w) fun p g _ _ => ⟨rfl, fun h => h⟩
    · have hok := h.ok j
      rw [h2] at hok
      obtain ⟨b, cells, T, k1, k2, k3, k4, k5⟩ := hok
      rw [h1]
      exact ⟨b, cells, T, by rw [hne j hj]; exact k1, k2, wkN_reps hLe hnew h3 k3, k4, k5⟩
def Blk.view (H : List Blk) (vids : List Nat) : Blk → Blk
  | .box xs => .box (A.nns (A.views H vids xs))
  | b => b
def frzL (H : List Blk) (vids : List Nat) : List Blk → Nat → List Blk
  | [], _ => []
  | b :: l, k => (match inB vids k with | true => b.frz | false => b.view H vids) :: frzL H vids l (k + 1)
theorem frzL_get {H : List Blk} {vids : List Nat} : ∀ (l : List Blk) (k j : Nat), (frzL H vids l k).getD j .unborn = if (k + j) ∈ vids then (l.getD j .unborn).frz else (l.getD j .unborn).view H vids
  | [], k, j => by simp only [frzL, List.getD_nil]; split <;> rfl
  | b :: l, k, 0 => by
    simp only [frzL, List.getD_cons_zero, Nat.add_zero]
    cases h : inB vids k with
    | true => rw [if_pos (inB_iff.1 h)]
    | false => rw [if_neg (fun hm => by rw [inB_iff.2 hm] at h; cases h)]
  | b :: l, k, j + 1 => by
    simp only [frzL, List.getD_cons_succ]
    rw [frzL_get l (k + 1) j, show k + 1 + j = k + (j + 1) by omega]
/-- Own blocks are frozen: what names them, says what they are. -/
theorem Weak.freeze {st : St} (vids : List Nat) : Weak st ⟨A.nns (A.views st.H vids st.env), frzL st.H vids st.H 0, st.k⟩ := by
  intro cx m S a w hs
  have hf := hs.hold.freeze (vids := vids) (H' := putB st.H (vids.map fun id => (id, (st.H.getD id .unborn).frz))) fun k => by
    rw [getD_putB, lastB_frz]
    by_cases hk : k ∈ vids <;> simp [hk]
  have hle := fzm_le hs.hold vids
  refine ⟨fzm m st.H vids, SV' m S vids, ⟨⟨hf.os, hf.tape, hf.output, hf.size, hf.old, hf.s0, hf.s, hf.pl, hf.apart, fun j => ?_, hf.le⟩, Reps.mono hle (fun _ h => h) (Keeps.refl _ w) _ _ (Reps.nn _ _ (Reps.view hs.hold _ _ hs.env)), hs.df, hs.pre⟩⟩
  have hj := hf.ok j
  rw [getD_putB, lastB_frz] at hj
  simp only [] at hj ⊢
  rw [frzL_get, Nat.zero_add]
  by_cases hk : j ∈ vids
  · rw [if_pos hk] at hj ⊢; exact hj
  · rw [if_neg hk] at hj ⊢
    simp only [Option.getD_none] at hj
    cases hb : st.H.getD j .unborn with
    | box xs =>
      rw [hb] at hj
      obtain ⟨b, cells, T, k1, k2, k3, k4, k5⟩ := hj
      have hok := hs.hold.ok j
      rw [hb] at hok
      obtain ⟨b0, cells0, T0, j1, j2, j3, _⟩ := hok
      have hi : inB vids j = false := by
        cases hi : inB vids j with
        | false => rfl
        | true => exact absurd (inB_iff.1 hi) hk
      have e1 : m j = some (.box b) := by simpa only [fzm, hi] using k1
      rw [j1] at e1; cases e1
      rw [j2] at k2; cases k2
      exact ⟨b, cells, T, k1, j2, Reps.mono hle (fun _ h => h) (Keeps.refl _ w) _ _ (Reps.nn _ _ (Reps.view hs.hold _ _ j3)), k4, k5⟩
    | unborn => rw [hb] at hj; exact hj
    | gone => rw [hb] at hj; exact hj
    | arr e sz n xs => rw [hb] at hj; exact hj
    | fro e sz n xs => rw [hb] at hj; exact hj

/-! ### parts -/
def boundA (st : St) (dflt : Nat) : Option Operand → Nat → Prop
  | none, l => l = dflt
  | some y, l => ∃ k : IntKind, ∃ v : Int, opA st y = .d (.lit (.int k v)) ∧ v = l
def boundV (a : Act) (dflt : Nat) : Option Operand → Nat → Prop
  | none, l => l = dflt
  | some y, l => ∃ k, a.eval y = .int k l
section
variable {P : Program} {o : Oper} {st : St}
theorem op_slice_str {t : TypeId} {x : Operand} {lo hi : Option Operand} {s : ByteArray} {l h : Nat} (ho : o.op = .slice t x lo hi none) (hu : P.underlying t = some .string) (hx : opA st x = .d (.lit (.string s)))
    (hlo : boundA st 0 lo l) (hhi : boundA st s.size hi h) (h1 : l ≤ h) (h2 : h ≤ s.size) :
    OpRun P o st (locsOf (x :: (lo.toList ++ hi.toList))) (.d (.lit (.string (s.extract l h)))) [] := by
  refine .pure fun st' hl cx m S a w hs => ⟨.string (s.extract l h), ?_, by simp only [Rep]; unfold RepD; exact ⟨rfl, rfl⟩⟩
  have e1 := op_lit hx (R := locsOf (x :: (lo.toList ++ hi.toList))) (fun l h => by simp [locsOf, h]) hl hs
  have g1 : (0 : Int) ≤ l ∧ (l : Int) ≤ h := by omega
  have g2 : (0 : Int) ≤ h ∧ (h : Int) ≤ s.size := by omega
  cases lo with
  | none =>
    simp only [boundA, boundV] at hlo; subst hlo
    cases hi with
    | none => simp only [boundA, boundV] at hhi; subst hhi; simp [execOp, ho, Instr.sliceAt, Instr.slice, run_underlying hu, e1, Instr.sliceBounds]
    | some y =>
      obtain ⟨k, v, h3, rfl⟩ := hhi
      have e2 := op_lit h3 (R := locsOf (x :: ((none : Option Operand).toList ++ (some y).toList))) (fun l h => by simp [locsOf, h]) hl hs
      simp [execOp, ho, Instr.sliceAt, Instr.slice, run_underlying hu, e1, e2, Instr.sliceBounds, Instr.sliceBound, asIntOf, h2]
  | some z =>
    obtain ⟨k, v, h3, rfl⟩ := hlo
    have e3 := op_lit h3 (R := locsOf (x :: ((some z).toList ++ hi.toList))) (fun l h => by simp [locsOf, h]) hl hs
    cases hi with
    | none => simp only [boundA, boundV] at hhi; subst hhi; simp [execOp, ho, Instr.sliceAt, Instr.slice, run_underlying hu, e1, e3, Instr.sliceBounds, Instr.sliceBound, asIntOf, h1]
    | some y =>
      obtain ⟨k, v, h4, rfl⟩ := hhi
      have e2 := op_lit h4 (R := locsOf (x :: ((some z).toList ++ (some y).toList))) (fun l h => by simp [locsOf, h]) hl hs
      simp [execOp, ho, Instr.sliceAt, Instr.slice, run_underlying hu, e1, e2, e3, Instr.sliceBounds, Instr.sliceBound, asIntOf, h1, h2]
theorem run_slice {t e sz : Nat} {x : Operand} {lo hi : Option Operand} {a : Act} {w : World} {p : Option Addr} {n cap l h : Nat} (ho : o.op = .slice t x lo hi none) (he : sliceElem P t = some (e, sz)) (hx : a.eval x = .slice p n cap)
    (hlo : boundV a 0 lo l) (hhi : boundV a n hi h) (h1 : l ≤ h) (h2 : h ≤ cap) :
    (execOp a.eval o).run P w = .ok (.value (.slice (if cap = l then p else p.map (·.add (l * sz))) (h - l) (cap - l))) w := by
  obtain ⟨hu, inf, hinf, hsz⟩ := sliceElem_spec he
  cases lo with
  | none =>
    simp only [boundA, boundV] at hlo; subst hlo
    cases hi with
    | none => simp only [boundA, boundV] at hhi; subst hhi; simp [execOp, ho, Instr.sliceAt, Instr.slice, run_underlying hu, hx, Instr.sliceBounds, sizeOf, typeInfo, hinf, hsz]
    | some y =>
      obtain ⟨k, h3⟩ := hhi
      simp [execOp, ho, Instr.sliceAt, Instr.slice, run_underlying hu, hx, h3, Instr.sliceBounds, Instr.sliceBound, asIntOf, h2, sizeOf, typeInfo, hinf, hsz]
  | some z =>
    obtain ⟨k, h3⟩ := hlo
    cases hi with
    | none => simp only [boundA, boundV] at hhi; subst hhi; simp [execOp, ho, Instr.sliceAt, Instr.slice, run_underlying hu, hx, h3, Instr.sliceBounds, Instr.sliceBound, asIntOf, h1, sizeOf, typeInfo, hinf, hsz]
    | some y =>
      obtain ⟨k, h4⟩ := hhi
      simp [execOp, ho, Instr.sliceAt, Instr.slice, run_underlying hu, hx, h3, h4, Instr.sliceBounds, Instr.sliceBound, asIntOf, h1, h2, sizeOf, typeInfo, hinf, hsz]
end
end Go.Proofs.Ytdpmojhejidhiaa.K

namespace Go.Proofs.Ytdpmojhejidhiaa.K
open Go.RowKit Go.Lib

section
variable {P : Program} {ops : Array Oper} {K : St → List Ef → Prop} {o : Oper} {l : List Oper} {st : St} {F : List Ef}
theorem Walk.nil (h : K st F) : Walk P ops K [] st F := h
theorem Walk.no (hg : gNo ops st o = true) (h : Walk P ops K l (st.put o.dst (.tup []) []) (F ++ [⟨o.dst, .tup [], [], gLoc ops o⟩])) : Walk P ops K (o :: l) st F := .inl ⟨hg, h⟩
theorem Walk.yes {R : List Loc} {val : A} {bl : List (Nat × Blk)} (hg : gYes ops st o = true) (hop : OpRun P o st R val bl) (h : Walk P ops K l (st.put o.dst val bl) (F ++ [⟨o.dst, val, bl, gLoc ops o ++ R⟩])) : Walk P ops K (o :: l) st F := .inr ⟨hg, R, val, bl, hop, h⟩
/-- The same state, written out. -/
theorem Walk.to_ {st' : St} (e : st = st') (h : Walk P ops K l st' F) : Walk P ops K l st F := e ▸ h
end
section
variable {P : Program} {K : Exit → St → Prop} {b c : Code} {st : St}
theorem Then.normal (h : AWP P K b st) : Then P K b .normal st := h
theorem Then.exit {id : Nat} (h : K (.exit id) st) : Then P K b (.exit id) st := h
theorem Then.ret (h : K .ret st) : Then P K b .ret st := h
theorem InBlock.normal {id : Nat} (h : K .normal st) : InBlock id K .normal st := h
theorem InBlock.ret {id : Nat} (h : K .ret st) : InBlock id K .ret st := h
theorem InBlock.same {id : Nat} (h : K .normal st) : InBlock id K (.exit id) st := by simp only [InBlock, Nat.beq_refl]; exact h
theorem InBlock.other {id id' : Nat} (hne : Nat.beq id' id = false) (h : K (.exit id') st) : InBlock id K (.exit id') st := by simp only [InBlock, hne]; exact h
def RoundK (P : Program) (K : Exit → St → Prop) (c : Code) (n : Nat) : Exit → St → Prop := fun e st' => match e with | .normal => Rounds P K c n st' | e => K e st'
theorem Rounds.succ {n : Nat} (h : AWP P (RoundK P K c n) c st) : Rounds P K c (n + 1) st := h
theorem RoundK.normal {n : Nat} (h : Rounds P K c n st) : RoundK P K c n .normal st := h
theorem RoundK.exit {n id : Nat} (h : K (.exit id) st) : RoundK P K c n (.exit id) st := h
theorem RoundK.ret {n : Nat} (h : K .ret st) : RoundK P K c n .ret st := h
theorem Rounds.weak {n : Nat} {st' : St} (hw : Weak st st') (h : Rounds P K c n st') : Rounds P K c n st := by
  cases n with
  | zero => exact h.elim
  | succ n => exact AWP.weak hw h
theorem Rounds.ind {α : Type} (S : α → St) (I : α → Prop) (μ : α → Nat) (step : ∀ (x : α) (n : Nat), I x → (∀ y, I y → μ y < μ x → Rounds P K c n (S y)) → AWP P (RoundK P K c n) c (S x)) : ∀ (n : Nat) (x : α), I x → μ x < n → Rounds P K c n (S x)
  | 0, x, _, h => by omega
  | n + 1, x, hI, h => Rounds.succ (step x n hI fun y hy hlt => Rounds.ind S I μ step n y hy (by omega))
/-- A loop, by what a state of it says. -/
theorem AWP.loopI {α : Type} (S : α → St) (I : α → Prop) (μ : α → Nat) (x : α) (hw : Weak st (S x)) (hI : I x)
    (step : ∀ (x : α) (n : Nat), I x → (∀ y, I y → μ y < μ x → Rounds P K c n (S y)) → AWP P (RoundK P K c n) c (S x)) : AWP P K (.loop c) st :=
  AWP.weak hw (AWP.loop (μ x + 1) (Rounds.ind S I μ step _ x hI (by omega)))
theorem AWP.to_ {st' : St} (e : st = st') (h : AWP P K c st') : AWP P K c st := e ▸ h
theorem AWP.if_ {c : Operand} {x y : Code} (bv : Bool) (hc : opA st c = .d (.lit (.bool bv))) (h : AWP P K (match bv with | true => x | false => y) st) : AWP P K (.cond c x y) st :=
  AWP.cond hc (fun e => by subst e; exact h) (fun e => by subst e; exact h)
end

/-! ### calls -/
def preOK (ids : List Nat) (H : List Blk) : List Nat → List Blk → Prop
  | [], [] => True
  | i :: is, b :: bs => b.ren ids = some (H.getD i .unborn) ∧ preOK ids H is bs
  | _, _ => False
theorem preOK_ren {ids : List Nat} {H : List Blk} : ∀ {is : List Nat} {bs : List Blk}, preOK ids H is bs → is.length = bs.length ∧ ∀ j k, is[j]? = some k → (bs.getD j .unborn).ren ids = some (H.getD k .unborn)
  | [], [], _ => ⟨rfl, fun j k h => by simp at h⟩
  | i :: is, b :: bs, h => by
    obtain ⟨h1, h2⟩ := h
    obtain ⟨h3, h4⟩ := preOK_ren h2
    refine ⟨by simp [h3], fun j k hj => ?_⟩
    cases j with
    | zero => simp only [List.getElem?_cons_zero, Option.some.injEq] at hj; subst hj; exact h1
    | succ j => exact h4 j k (by simpa using hj)
  | [], _ :: _, h => h.elim
  | _ :: _, [], h => h.elim
def renBs (ids : List Nat) : List Blk → Option (List Blk)
  | [] => some []
  | b :: bs => match b.ren ids, renBs ids bs with | some c, some cs => some (c :: cs) | _, _ => none
theorem renBs_spec {ids : List Nat} : ∀ {bs cs : List Blk}, renBs ids bs = some cs → cs.length = bs.length ∧ ∀ (j : Nat) (b : Blk), bs[j]? = some b → ∃ b', cs[j]? = some b' ∧ b.ren ids = some b'
  | [], cs, h => by simp only [renBs, Option.some.injEq] at h; subst h; exact ⟨rfl, fun j b h => by simp at h⟩
  | b :: bs, cs, h => by
    simp only [renBs] at h
    cases hb : b.ren ids with
    | none => rw [hb] at h; simp at h
    | some c =>
      cases hr : renBs ids bs with
      | none => rw [hb, hr] at h; simp at h
      | some ds =>
        rw [hb, hr] at h; simp only [Option.some.injEq] at h; subst h
        obtain ⟨h1, h2⟩ := renBs_spec hr
        refine ⟨by simp [h1], fun j x hj => ?_⟩
        cases j with
        | zero => simp only [List.getElem?_cons_zero, Option.some.injEq] at hj; subst hj; exact ⟨c, rfl, hb⟩
        | succ j => simpa using h2 j x (by simpa using hj)
def nodupB : List Nat → Bool
  | [] => true
  | x :: l => match inB l x with | true => false | false => nodupB l
theorem nodupB_spec : ∀ {l : List Nat}, nodupB l = true → l.Nodup
  | [], _ => List.nodup_nil
  | x :: l, h => by
    simp only [nodupB] at h
    cases hi : inB l x with
    | true => rw [hi] at h; cases h
    | false =>
      rw [hi] at h
      exact List.nodup_cons.2 ⟨(fun hm => by rw [inB_iff.2 hm] at hi; cases hi), nodupB_spec h⟩
def isUnborn : Blk → Bool
  | .unborn => true
  | _ => false
/-- What a call asks of the names, in one Bool. -/
def callB (H : List Blk) (post : List Blk) (pids nids vids : List Nat) : Bool :=
  nodupB (pids ++ nids) && Nat.beq (pids ++ nids).length post.length && post.all (·.notFro) && nids.all (fun i => isUnborn (H.getD i .unborn)) && vids.all (fun i => !inB (pids ++ nids) i)
section
variable {P : Program} {o : Oper} {st : St} {callee : Operand} {args : List Operand} {ats : Array TypeId} {f : FuncId} {first cap xs : List A} {pre : List Blk} {res : A} {post : List Blk} {val : A} {post' : List Blk}
theorem mkCallN (pids nids vids : List Nat) (con : GCall P f xs pre res post) (ho : o.op = .call ⟨.value callee, args.toArray, ats⟩) (hfn : opA st callee = .clo (.func f) first cap) (hin : ∀ args w, (callFunc f args).run P w = .ok (.enter f args) w)
    (hargs : ∃ zs, A.rens pids xs = some zs ∧ nnL zs (A.views st.H vids (first ++ args.map (opA st) ++ cap))) (hpre : preOK pids st.H pids pre) (hB : callB st.H post pids nids vids = true) (hpost : renBs (pids ++ nids) post = some post') (hres : res.ren (pids ++ nids) = some val) :
    CallOK P st o callee args f first cap xs pre res post pids nids vids val post' := by
  simp only [callB, Bool.and_eq_true] at hB
  obtain ⟨⟨⟨⟨h1, h2⟩, h3⟩, h4⟩, h5⟩ := hB
  obtain ⟨h6, h7⟩ := preOK_ren hpre
  obtain ⟨h8, h9⟩ := renBs_spec hpost
  refine ⟨⟨ats, ho⟩, hfn, hin, con, hargs, ⟨h6, h7⟩, nodupB_spec h1, ⟨Nat.eq_of_beq_eq_true h2, h9⟩, h8, fun b hb => List.all_eq_true.1 h3 b hb, fun id hid => ?_, fun id hid => ?_, hres⟩
  · have := List.all_eq_true.1 h4 id hid
    cases hb : st.H.getD id .unborn <;> rw [hb] at this <;> first | rfl | cases this
  · have := List.all_eq_true.1 h5 id hid
    intro hm
    rw [inB_iff.2 hm] at this; cases this
end
/-- A contract whose new blocks are frozen when it comes back. -/
theorem GCall.cast {P : Program} {f : FuncId} {args args' : List A} {pre pre' : List Blk} {res res' : A} {post post' : List Blk} (h : GCall P f args pre res post) (h1 : args = args') (h2 : pre = pre') (h3 : res = res') (h4 : post = post') : GCall P f args' pre' res' post' := by
  subst h1; subst h2; subst h3; subst h4; exact h

/-! ### integers -/
section
variable {P : Program} {t : TypeId} {x y : Operand} {k k' : IntKind} {a b : Int} {w : World}
theorem hb_add : (do eqGuard .add t x y (.int k a) (.int k b); binOp .add t (.int k a) (.int k b) : Sem Value).run P w = .ok (.int k (k.wrap (a + b))) w := by simp [eqGuard, binOp, Op.intArith]
theorem hb_sub : (do eqGuard .sub t x y (.int k a) (.int k b); binOp .sub t (.int k a) (.int k b) : Sem Value).run P w = .ok (.int k (k.wrap (a - b))) w := by simp [eqGuard, binOp, Op.intArith]
theorem hb_quo (hb : b ≠ 0) : (do eqGuard .quo t x y (.int k a) (.int k b); binOp .quo t (.int k a) (.int k b) : Sem Value).run P w = .ok (.int k (k.wrap (a.tdiv b))) w := by simp [eqGuard, binOp, Op.intDiv, hb]
theorem hb_rem (hb : b ≠ 0) : (do eqGuard .rem t x y (.int k a) (.int k b); binOp .rem t (.int k a) (.int k b) : Sem Value).run P w = .ok (.int k (a.tmod b)) w := by simp [eqGuard, binOp, Op.intDiv, hb]
theorem hb_shr {n : Nat} (hn : n ≤ k.bits) (hb : b = (n : Int)) : (do eqGuard .shr t x y (.int k a) (.int k' b); binOp .shr t (.int k a) (.int k' b) : Sem Value).run P w = .ok (.int k (a.fdiv (2 ^ n))) w := by
  subst hb; have h0 : ¬ ((n : Int) < 0) := by omega
  simp [eqGuard, binOp, Op.shift, Nat.min_eq_left hn, h0]
theorem hb_and : (do eqGuard .and t x y (.int k a) (.int k b); binOp .and t (.int k a) (.int k b) : Sem Value).run P w = .ok (.int k (k.wrap ((BitVec.ofInt k.bits a &&& BitVec.ofInt k.bits b).toNat))) w := by simp [eqGuard, binOp, Op.intBits]
theorem hb_lss : (do eqGuard .lss t x y (.int k a) (.int k b); binOp .lss t (.int k a) (.int k b) : Sem Value).run P w = .ok (.bool (decide (a < b))) w := by simp [eqGuard, binOp, Op.intCmp]
theorem hb_leq : (do eqGuard .leq t x y (.int k a) (.int k b); binOp .leq t (.int k a) (.int k b) : Sem Value).run P w = .ok (.bool (decide (a ≤ b))) w := by simp [eqGuard, binOp, Op.intCmp]
theorem hb_gtr : (do eqGuard .gtr t x y (.int k a) (.int k b); binOp .gtr t (.int k a) (.int k b) : Sem Value).run P w = .ok (.bool (decide (b < a))) w := by simp [eqGuard, binOp, Op.intCmp]
theorem hb_geq : (do eqGuard .geq t x y (.int k a) (.int k b); binOp .geq t (.int k a) (.int k b) : Sem Value).run P w = .ok (.bool (decide (b ≤ a))) w := by simp [eqGuard, binOp, Op.intCmp]
theorem hb_eql : (do eqGuard .eql t x y (.int k a) (.int k b); binOp .eql t (.int k a) (.int k b) : Sem Value).run P w = .ok (.bool (decide (a = b))) w := by
  simp [eqGuard, binOp, Op.intCmp]; exact Bool.eq_iff_iff.2 (by simp)
theorem hb_neq : (do eqGuard .neq t x y (.int k a) (.int k b); binOp .neq t (.int k a) (.int k b) : Sem Value).run P w = .ok (.bool (decide (a ≠ b))) w := by
  simp [eqGuard, binOp, Op.intCmp]; exact Bool.eq_iff_iff.2 (by simp)
variable {s u : ByteArray}
theorem toList_inj {s u : ByteArray} : s.toList = u.toList ↔ s = u := by
  constructor
  · intro h
    rw [ByteArray.toList_eq, ByteArray.toList_eq] at h
    cases s; cases u; simp at h; simp [h]
  · intro h; rw [h]
theorem hb_seql : (do eqGuard .eql t x y (.string s) (.string u); binOp .eql t (.string s) (.string u) : Sem Value).run P w = .ok (.bool (decide (s = u))) w := by
  simp [eqGuard, binOp, Op.stringOp]; exact Bool.eq_iff_iff.2 (by simp [toList_inj])
theorem hb_sneq : (do eqGuard .neq t x y (.string s) (.string u); binOp .neq t (.string s) (.string u) : Sem Value).run P w = .ok (.bool (decide (s ≠ u))) w := by
  simp [eqGuard, binOp, Op.stringOp]; exact Bool.eq_iff_iff.2 (by simp [toList_inj])
variable {p q : Bool}
theorem run_beq (ht : P.underlying t = some .bool) : (Op.equal t (.bool p) (.bool q)).run P w = .ok (p == q) w := by
  unfold Op.equal
  rw [show Op.maxDepth = 9999 + 1 from rfl, Op.equalIn]
  simp [run_underlying ht]
theorem hb_beql (ht : P.underlying t = some .bool) : (do eqGuard .eql t x y (.bool p) (.bool q); binOp .eql t (.bool p) (.bool q) : Sem Value).run P w = .ok (.bool (decide (p = q))) w := by
  have : (p == q) = decide (p = q) := by cases p <;> cases q <;> rfl
  simp only [eqGuard, binOp, Sem.run_bind, run_beq ht, this]
  rfl
theorem hu_not : (Op.unary .not (.bool p)).run P w = .ok (.bool !p) w := rfl
theorem hu_neg : (Op.unary .neg (.int k a)).run P w = .ok (.int k (k.wrap (0 - a))) w := rfl
end
theorem lit_int {k : IntKind} {a b : Int} (h : a = b) : A.d (.lit (.int k a)) = .d (.lit (.int k b)) := by rw [h]
end Go.Proofs.Ytdpmojhejidhiaa.K

namespace Go.Proofs.Ytdpmojhejidhiaa.K
open Go.RowKit Go.Lib

/-- The cells of a list of things, each of so many cells. -/
def flatD {α : Type} (enc : α → List D) (l : List α) : List D := l.flatMap enc
section
variable {α : Type} {enc : α → List D} {sz : Nat}
@[simp] theorem flatD_nil : flatD enc [] = [] := rfl
theorem flatD_cons (x : α) (l : List α) : flatD enc (x :: l) = enc x ++ flatD enc l := rfl
theorem flatD_append (l r : List α) : flatD enc (l ++ r) = flatD enc l ++ flatD enc r := by simp [flatD]
theorem flatD_length (h : ∀ a, (enc a).length = sz) : ∀ l : List α, (flatD enc l).length = l.length * sz
  | [] => by simp
  | x :: l => by rw [flatD_cons, List.length_append, h, flatD_length h l, List.length_cons, Nat.add_mul]; omega
theorem flat_drop (h : ∀ a, (enc a).length = sz) : ∀ {l : List α} {i : Nat} {x : α}, l[i]? = some x → (flatD enc l).drop (i * sz) = enc x ++ flatD enc (l.drop (i + 1))
  | [], i, x, hx => by simp at hx
  | y :: l, 0, x, hx => by
    simp only [List.getElem?_cons_zero, Option.some.injEq] at hx
    subst hx
    simp [flatD_cons]
  | y :: l, i + 1, x, hx => by
    rw [flatD_cons, Nat.add_mul, Nat.one_mul, List.drop_append]
    have e1 : (enc y).drop (i * sz + sz) = [] := List.drop_of_length_le (by rw [h]; omega)
    rw [e1, List.nil_append, h, Nat.add_sub_cancel]
    exact flat_drop h (by simpa using hx)
variable {l : List α} {i : Nat} {x : α} {k : Nat}
theorem flat_ref_at (h : ∀ a, (enc a).length = sz) (hx : l[i]? = some x) {z : D} (hz : (enc x)[0]? = some z) : ((List.drop (i * sz) (flatD enc l)).map A.d)[0]? = some (.d z) := by
  have hl : 0 < (enc x).length := (List.getElem?_eq_some_iff.1 hz).1
  rw [flat_drop h hx, List.getElem?_map, List.getElem?_append_left hl, hz]; rfl
theorem flat_refk_at (h : ∀ a, (enc a).length = sz) (hx : l[i]? = some x) {z : D} (hz : (enc x)[k]? = some z) : ((List.drop k (List.drop (i * sz) (flatD enc l))).map A.d)[0]? = some (.d z) := by
  have hl : k < (enc x).length := (List.getElem?_eq_some_iff.1 hz).1
  rw [flat_drop h hx, List.getElem?_map, List.getElem?_drop]
  simp only [Nat.add_zero]
  rw [List.getElem?_append_left hl, hz]; rfl
theorem flat_ref_le (h : ∀ a, (enc a).length = sz) (hx : l[i]? = some x) {zs : List A} (hz : zs.length ≤ sz) : 0 + zs.length ≤ ((List.drop (i * sz) (flatD enc l)).map A.d).length := by
  rw [flat_drop h hx, List.length_map, List.length_append, h]; omega
theorem flat_ref (h : ∀ a, (enc a).length = sz) (hx : l[i]? = some x) {zs : List A} (hz : ((enc x).take zs.length).map A.d = zs) : ((((List.drop (i * sz) (flatD enc l)).map A.d).drop 0).take zs.length) = zs := by
  have hl : zs.length ≤ (enc x).length := by
    have := congrArg List.length hz
    simp at this; omega
  rw [flat_drop h hx, List.drop_zero, ← List.map_take, List.take_append_of_le_length hl]; exact hz
theorem flat_refk_le (h : ∀ a, (enc a).length = sz) (hx : l[i]? = some x) {zs : List A} (hz : k + zs.length ≤ sz) : 0 + zs.length ≤ ((List.drop k (List.drop (i * sz) (flatD enc l))).map A.d).length := by
  rw [flat_drop h hx, List.length_map, List.length_drop, List.length_append, h]; omega
theorem flat_refk (h : ∀ a, (enc a).length = sz) (hx : l[i]? = some x) {zs : List A} (hz : (((enc x).drop k).take zs.length).map A.d = zs) : ((((List.drop k (List.drop (i * sz) (flatD enc l))).map A.d).drop 0).take zs.length) = zs := by
  by_cases h0 : zs = []
  · subst h0; simp
  · have hl : zs.length ≤ ((enc x).drop k).length := by
      have := congrArg List.length hz
      simp at this ⊢; omega
    have hk : k ≤ (enc x).length := by
      have := List.length_pos_iff.2 h0
      simp at hl; omega
    rw [flat_drop h hx, List.drop_zero, ← List.map_take, List.drop_append_of_le_length hk, List.take_append_of_le_length hl]; exact hz
theorem flat_row_at (h : ∀ a, (enc a).length = sz) (hx : l[i]? = some x) {z : D} (hz : (enc x)[0]? = some z) : ((flatD enc l).map A.d)[i * sz]? = some (.d z) := by
  have := flat_ref_at h hx hz
  rw [List.getElem?_map, List.getElem?_drop, Nat.add_zero] at this
  rw [List.getElem?_map]; exact this
end
/-! ### the ends -/
section
variable {P : Program} {rs : List ResultVar} {k : Nat} {res : A} {post : List Blk} {st : St}
theorem ret_any (ids : List Nat) (xs : List A) (h1 : resList P st rs = some xs) (h2 : res.ren ids = some (one xs).nn) (h3 : preOK ids st.H ids post) (h4 : nodupB ids = true) (h5 : k ≤ ids.length ∧ ids.take k = List.range k) : RetK P rs k res post .ret st ∧ RetK P rs k res post .normal st := by
  obtain ⟨h6, h7⟩ := preOK_ren h3
  have : ∃ (ids : List Nat) (xs : List A), resList P st rs = some xs ∧ res.ren ids = some (one xs).nn ∧ renH ids post st.H ∧ ids.Nodup ∧ k ≤ ids.length ∧ ids.take k = List.range k :=
    ⟨ids, xs, h1, h2, ⟨h6, h7⟩, nodupB_spec h4, h5.1, h5.2⟩
  exact ⟨this, this⟩
end
section
variable {P : Program} {o : Oper} {st : St}
end
section
variable {P : Program} {o : Oper} {st : St}
end
theorem getD_snoc {H H' : List Blk} {b : Blk} {j : Nat} (e : H' = H ++ [b]) (hj : j ≠ H.length) : H'.getD j .unborn = H.getD j .unborn := by
  subst e
  rw [List.getD_eq_getElem?_getD, List.getD_eq_getElem?_getD, List.getElem?_append]
  split
  · rfl
  · rename_i h
    rw [List.getElem?_eq_none (by simp; omega), List.getElem?_eq_none (by omega)]
theorem ownH_set {H H' : List Blk} {i : Nat} {xs ys : List A} {b : Blk} (e : H' = H.set i (.box xs) ++ [b]) (hb : H.getD i .unborn = .box ys) (hi : i < H.length) (hw : wkN H.length xs ys) :
    ∀ j, j ≠ H.length → H'.getD j .unborn = H.getD j .unborn ∨ ∃ xs ys, H'.getD j .unborn = .box xs ∧ H.getD j .unborn = .box ys ∧ wkN H.length xs ys := by
  intro j hj
  have h1 := getD_snoc (H := H.set i (.box xs)) (b := b) (j := j) e (by simpa using hj)
  by_cases hji : j = i
  · subst hji
    refine .inr ⟨xs, ys, ?_, hb, hw⟩
    rw [h1, List.getD_eq_getElem?_getD, List.getElem?_set]; simp [hi]
  · left
    rw [h1, List.getD_eq_getElem?_getD, List.getD_eq_getElem?_getD, List.getElem?_set, if_neg (by omega)]
theorem flat_all {α : Type} {enc : α → List D} {sz : Nat} (h : ∀ a, (enc a).length = sz) {l : List α} : ((flatD enc l).drop 0).take (l.length * sz) = flatD enc l := by
  rw [List.drop_zero, List.take_of_length_le (by rw [flatD_length h]; exact Nat.le_refl _)]
theorem bl_app {i j e sz n n' : Nat} {xs ys : List D} (h1 : n = n') (h2 : xs = ys) : [(i, Blk.gone), (j, Blk.arr e sz n xs)] = [(i, Blk.gone), (j, Blk.arr e sz n' ys)] := by rw [h1, h2]
theorem bl_one {j e sz n n' : Nat} {xs ys : List D} (h1 : n = n') (h2 : xs = ys) : [(j, Blk.arr e sz n xs)] = [(j, Blk.arr e sz n' ys)] := by rw [h1, h2]
theorem flat_take {α : Type} {enc : α → List D} {sz : Nat} (h : ∀ a, (enc a).length = sz) : ∀ {l : List α} {k : Nat}, (flatD enc l).take (k * sz) = flatD enc (l.take k)
  | [], k => by simp
  | x :: l, 0 => by simp
  | x :: l, k + 1 => by
    rw [flatD_cons, List.take_succ_cons, flatD_cons, Nat.add_mul, Nat.one_mul, List.take_append, h x, Nat.add_sub_cancel, flat_take h, List.take_of_length_le (by rw [h]; omega)]
theorem flat_dropL {α : Type} {enc : α → List D} {sz : Nat} (h : ∀ a, (enc a).length = sz) : ∀ {l : List α} {k : Nat}, (flatD enc l).drop (k * sz) = flatD enc (l.drop k)
  | [], k => by simp
  | x :: l, 0 => by simp
  | x :: l, k + 1 => by
    rw [flatD_cons, List.drop_succ_cons, Nat.add_mul, Nat.one_mul, List.drop_append, h x, Nat.add_sub_cancel, flat_dropL h, List.drop_of_length_le (by rw [h]; omega), List.nil_append]
section
variable {P : Program} {o : Oper} {st : St}
end
theorem plain_triv {x : A} (h : x.Plain) : x.Plain ∧ ∀ b ∈ ([] : List Blk), b.Plain := ⟨h, fun b hb => by cases hb⟩
end Go.Proofs.Ytdpmojhejidhiaa.K

namespace Go.Proofs.Ytdpmojhejidhiaa.K
open Go.RowKit Go.Lib

theorem wrap_u64 (n : Int) : IntKind.u64.wrap n = n % 18446744073709551616 := by simp [IntKind.wrap, IntKind.signed, IntKind.bits]
theorem wrap_u8 (n : Int) : IntKind.u8.wrap n = n % 256 := by simp [IntKind.wrap, IntKind.signed, IntKind.bits]
section
variable {P : Program}
theorem run_conv {s t : TypeId} {ds : TypeDesc} {k k' : IntKind} {a : Int} (hs : P.underlying s = some ds) (ht : P.underlying t = some (.int k')) (w : World) : (convert s t (.int k a)).run P w = .ok (.int k' (k'.wrap a)) w := by
  simp [convert, run_underlying hs, run_underlying ht, Conv.intToInt]
end
section
variable {P : Program} {o : Oper} {st : St}
end
/-- A contract whose new blocks are frozen. -/
theorem GCall.frz {P : Program} {f : FuncId} {args : List A} {res res' : A} {post : List Blk} (h : GCall P f args [] res post) (vids : List Nat) (hr : res'.ren [] = some (A.nn (res.view post vids))) : GCall P f args [] res' [] := by
  intro m S w vs hH hargs
  refine Calls.mono (h m S w vs hH hargs) fun e w' ⟨v, m', S', he, h1, h2⟩ => ⟨v, via [] (fzm m' post vids), SV' m' S' vids, he, ?_, ?_⟩
  · have hf := h1.freeze (vids := vids) (H' := putB post (vids.map fun id => (id, (post.getD id .unborn).frz))) fun k => by
      rw [getD_putB, lastB_frz]
      by_cases hk : k ∈ vids <;> simp [hk]
    exact hf.via (ids := []) List.nodup_nil ⟨rfl, fun j k hk => by simp at hk⟩ fun id p hp => by
      have := hH.ok id
      simp only [List.getD_nil, BlkOK] at this
      simp only at hp
      rw [this] at hp; cases hp
  · exact (Rep.via res' _ v hr).2 (Rep.nn _ _ (Rep.mono (fzm_le h1 vids) (fun _ h => h) (Keeps.refl _ w') _ _ (Rep.view h1 _ _ h2)))
end Go.Proofs.Ytdpmojhejidhiaa.K

namespace Go.Proofs.Ytdpmojhejidhiaa
open Go.RowKit

/-- A slice that reads as these cells (sz of them an element). -/
def IsSl (sz : Nat) (cs : List Value) : SP := fun v w => ∃ a n cap, v = .slice a n cap ∧ cs.length = n * sz ∧ n ≤ cap ∧ cap ≤ maxLen ∧ (a = none → n = 0 ∧ cap = 0) ∧
  ∀ p, a = some p → ∀ j u, cs[j]? = some u → w.cell? (p.add j) = some u
/-- A slice that lies at the head of a block of our own (from block B on), or nil. -/
def Owns (B : Nat) (e : TypeId) (sz : Nat) (cs : List Value) : SP := fun v w => ∃ n, w.ownsRow B e sz v n cs

theorem cell_ext {w w' : World} (h : Ext w w') {a : Addr} {u : Value} (hc : w.cell? a = some u) : w'.cell? a = some u := by
  rw [h.cell (World.block_lt_of_cell? w a hc)]; exact hc
theorem IsSl.stable (sz : Nat) (cs : List Value) : Stable (IsSl sz cs) := by
  rintro v w w' ⟨a, n, cap, rfl, hl, hn, hc, ha, h⟩ hx
  exact ⟨a, n, cap, rfl, hl, hn, hc, ha, fun p hp j u hj => cell_ext hx (h p hp j u hj)⟩
theorem IsSl.ext {sz : Nat} {cs : List Value} {v : Value} {w w' : World} (h : IsSl sz cs v w) (hx : Ext w w') : IsSl sz cs v w' := IsSl.stable sz cs v w w' h hx
theorem Owns.stable (B : Nat) (e : TypeId) (sz : Nat) (cs : List Value) : Stable (Owns B e sz cs) := by
  rintro v w w' ⟨n, h⟩ hx
  exact ⟨n, h.kept (row := none) ⟨hx.os, hx.tape, hx.output, hx.size, fun k hk _ => hx.block k hk⟩ (by cases v.ownBlock <;> simp)⟩
theorem Owns.ext {B : Nat} {e : TypeId} {sz : Nat} {cs : List Value} {v : Value} {w w' : World} (h : Owns B e sz cs v w) (hx : Ext w w') : Owns B e sz cs v w' := Owns.stable B e sz cs v w w' h hx
theorem Owns.mono {B B' : Nat} {e : TypeId} {sz : Nat} {cs : List Value} {v : Value} {w : World} (h : Owns B e sz cs v w) (hB : B' ≤ B) : Owns B' e sz cs v w := by
  obtain ⟨n, h1, h2⟩ := h
  refine ⟨n, h1, ?_⟩
  rcases h2 with h2 | ⟨g, cap, cur, hv, hg, r⟩
  · exact .inl h2
  · exact .inr ⟨g, cap, cur, hv, by omega, r⟩
theorem Owns.nil (B : Nat) (e : TypeId) (sz : Nat) (w : World) : Owns B e sz [] (.slice none 0 0) w := ⟨0, World.ownsRow_nil w B e sz⟩
theorem addr_add (b o j : Nat) : (⟨b, o, none⟩ : Addr).add j = ⟨b, o + j, none⟩ := by unfold Addr.add; split <;> simp_all
theorem Owns.lit (w : World) (e : TypeId) (sz : Nat) (cs : List Value) (n : Nat) (hn : cs.length = n * sz) (hm : n ≤ maxLen) :
    Owns w.heap.size e sz cs (.slice (some ⟨w.heap.size, 0, none⟩) n n) (w.alloc (.cells cs.toArray e)) := by
  have := World.ownsRow_lit (base := w.heap.size) (e := e) (size := sz) w cs.toArray n (Nat.le_refl _) hm (by simpa using hn)
  exact ⟨n, by simpa using this⟩
/-- A slice that is not empty, taken apart. -/
theorem IsSl.at {sz : Nat} {cs : List Value} {v : Value} {w : World} (h : IsSl sz cs v w) (hne : cs ≠ []) :
    ∃ b off n cap, v = .slice (some ⟨b, off, none⟩) n cap ∧ cs.length = n * sz ∧ n ≤ cap ∧ cap ≤ maxLen ∧ ∀ j u, cs[j]? = some u → w.cell? ⟨b, off + j, none⟩ = some u := by
  obtain ⟨a, n, cap, rfl, hl, hn, hc, ha, hcell⟩ := h
  cases a with
  | none =>
    obtain ⟨rfl, rfl⟩ := ha rfl
    exact absurd (List.eq_nil_of_length_eq_zero (by simpa using hl)) hne
  | some p =>
    obtain ⟨b, off, spot⟩ := p
    have h0 := hcell _ rfl 0 (cs[0]'(List.length_pos_iff.2 hne)) (by simp)
    have hspot : spot = none := by simpa [Addr.add] using World.cell?_spot h0
    subst hspot
    exact ⟨b, off, n, cap, rfl, hl, hn, hc, fun j u hj => by rw [← addr_add]; exact hcell _ rfl j u hj⟩
theorem Owns.at {B : Nat} {e : TypeId} {sz : Nat} {cs : List Value} {v : Value} {w : World} (h : Owns B e sz cs v w) (hne : cs ≠ []) :
    ∃ g n cap, v = .slice (some ⟨g, 0, none⟩) n cap ∧ B ≤ g ∧ cs.length = n * sz ∧ n ≤ cap ∧ cap ≤ maxLen ∧ ∀ j u, cs[j]? = some u → w.cell? ⟨g, j, none⟩ = some u := by
  obtain ⟨n, h⟩ := h
  have h' := h
  obtain ⟨h1, h2 | ⟨g, cap, cur, rfl, hg, hh, hn, hm, hs, ht⟩⟩ := h
  · obtain ⟨rfl, rfl⟩ := h2
    exact absurd (List.eq_nil_of_length_eq_zero (by simpa using h1)) hne
  · exact ⟨g, n, cap, rfl, hg, h1, hn, hm, fun j u hj => by have := h'.cells (g := g) rfl j u hj; rwa [addr_add, Nat.zero_add] at this⟩
theorem IsSl.ptr {sz : Nat} {cs : List Value} {a : Option Addr} {n cap : Nat} {w : World} (h : IsSl sz cs (.slice a n cap) w) (hne : 0 < cs.length) : ∃ b off, a = some ⟨b, off, none⟩ := by
  obtain ⟨b, off, n', cap', he, _⟩ := h.at (List.length_pos_iff.1 hne)
  simp only [Value.slice.injEq] at he
  exact ⟨b, off, he.1⟩
theorem Ext.grown {w0 w w' : World} {e : TypeId} {sz : Nat} {cs : List Value} {v : Value} (hx : Ext w0 w) (ho : Owns w0.heap.size e sz cs v w) (hg : w.grownBy w' v.ownBlock) : Ext w0 w' := by
  obtain ⟨n, ho⟩ := ho
  exact Below.grown hx hg hx.size fun k hk => (ho.lt k hk).1
/-- Blocks of cells of another type than e are as they were. -/
def Other (e : TypeId) (w w' : World) : Prop := ∀ (g : Nat) (cur : Array Value) (e' : TypeId) (fr : Nat × Nat), w.heap[g]? = some (Obj.cells cur e' fr) → e' ≠ e → w'.heap[g]? = some (Obj.cells cur e' fr)
theorem Other.refl (e : TypeId) (w : World) : Other e w w := fun _ _ _ _ h _ => h
theorem Other.trans {e : TypeId} {a b c : World} (h : Other e a b) (k : Other e b c) : Other e a c := fun g cur e' fr h1 h2 => k g cur e' fr (h g cur e' fr h1 h2) h2
theorem Ext.other {w w' : World} (h : Ext w w') (e : TypeId) : Other e w w' := fun g cur e' fr h1 _ => by
  rw [h.block g (Array.getElem?_eq_some_iff.1 h1).1]; exact h1
theorem Other.grown {e : TypeId} {sz : Nat} {B : Nat} {cs : List Value} {v : Value} {w w' : World} (ho : Owns B e sz cs v w) (hg : w.grownBy w' v.ownBlock) : Other e w w' := by
  intro g cur e' fr h1 h2
  rw [hg.block g (Array.getElem?_eq_some_iff.1 h1).1 fun hrow => ?_]; exact h1
  obtain ⟨n, _, ⟨rfl, _⟩ | ⟨g', cap, cur', rfl, _, hh, _⟩⟩ := ho
  · simp [Value.ownBlock] at hrow
  · simp only [Value.ownBlock, Option.some.injEq] at hrow
    subst hrow
    rw [hh] at h1
    simp only [Option.some.injEq, Obj.cells.injEq] at h1
    exact h2 h1.2.1.symm
theorem Owns.other {B : Nat} {e e' : TypeId} {sz : Nat} {cs : List Value} {v : Value} {w w' : World} (h : Owns B e sz cs v w) (ho : Other e' w w') (hne : e ≠ e') : Owns B e sz cs v w' := by
  obtain ⟨n, h1, h2⟩ := h
  refine ⟨n, h1, ?_⟩
  rcases h2 with h2 | ⟨g, cap, cur, hv, hg, hh, r⟩
  · exact .inl h2
  · exact .inr ⟨g, cap, cur, hv, hg, ho g cur e _ hh hne, r⟩
theorem IsSl.lit (w : World) (e : TypeId) (sz : Nat) (cs : List Value) (n : Nat) (hn : cs.length = n * sz) (hm : n ≤ maxLen) :
    IsSl sz cs (.slice (some ⟨w.heap.size, 0, none⟩) n n) (w.alloc (.cells cs.toArray e)) :=
  ⟨_, n, n, rfl, hn, Nat.le_refl _, hm, (fun h => by cases h), fun p hp j u hj => by
    cases hp
    rw [addr_add, Nat.zero_add, World.cell?_alloc_new]
    simpa using hj⟩

section
variable {P : Program}
end

theorem Gives.base {P : Program} {f : FuncId} {args : Array Value} {w : World} {B B' : Nat} {e : TypeId} {sz : Nat} {cs : List Value} (h : Gives P f args w (Owns B e sz cs)) (hB : B' ≤ B) : Gives P f args w (Owns B' e sz cs) :=
  h.mono fun _ _ ho => ho.mono hB
section
variable {P : Program} {ops : Array Oper} {w0 : World} {tm : List Value} {Q : Exit → Act → World → Prop} {df : List Deferred} {rest l : List Oper} {U : List (Nat × SV)} {o : Oper} {d : Nat}
end
end Go.Proofs.Ytdpmojhejidhiaa

namespace Go.Proofs.Ytdpmojhejidhiaa.K
open Go.RowKit Go.Lib
section
variable {P : Program} {o : Oper} {st : St}
def arrElem (P : Program) (t : TypeId) : Option (Nat × Nat) := match P.underlying t with
  | some (.array n e) => (P.info? e).map fun i => (n, i.size)
  | _ => none
theorem arrElem_spec {t n sz : Nat} (h : arrElem P t = some (n, sz)) : ∃ e i, P.underlying t = some (.array n e) ∧ P.info? e = some i ∧ i.size = sz := by
  unfold arrElem at h
  cases hu : P.underlying t with
  | none => rw [hu] at h; cases h
  | some d =>
    rw [hu] at h
    cases d with
    | array n' e =>
      simp only at h
      cases hi : P.info? e with
      | none => rw [hi] at h; cases h
      | some i => rw [hi] at h; cases h; exact ⟨e, i, rfl, hi, rfl⟩
    | _ => cases h
theorem op_iaddr_arr {t n sz i : Nat} {x ix : Operand} {y : A} {k : IntKind} {iv : Int} (ho : o.op = .indexAddr t x ix) (hy : opA st x = y) (hc : (cellsAt st.H y).isSome = true) (he : arrElem P t = some (n, sz)) (hi : opA st ix = .d (.lit (.int k iv))) (hiv : iv = (i : Int)) (hin : i < n) :
    OpRun P o st (locsOf [x, ix] ++ locA y) (addA (i * sz) y) [] := by
  refine .pure fun st' hag cx m S a w hs => ?_
  have hr := op_rep hy (R := locsOf [x, ix] ++ locA y) (fun l h => by simp [locsOf, h]) hag hs
  have hix := op_lit hi (R := locsOf [x, ix] ++ locA y) (fun l h => by simp [locsOf, h]) hag hs
  rw [← locA_agree fun l h => hag l (by simp [h])] at hc
  obtain ⟨p, hp, h2⟩ := addA_rep hs.hold hr (by cases h : cellsAt st'.H y <;> simp_all) (i * sz)
  obtain ⟨e, inf, hu, hinf, hsz⟩ := arrElem_spec he
  refine ⟨_, ?_, h2⟩
  subst hiv
  have h0 : (0 : Int) ≤ i ∧ (i : Int) < n := by omega
  simp [execOp, ho, Instr.indexAt, hix, asIntOf, run_underlying hu, hp, Instr.sureAddr, sizeOf, typeInfo, hinf, hsz, hin]
/-! ### texts in order -/
/-! ### structs of plain cells -/
def scalEq (P : Program) (t : TypeId) (a b : Value) : Option Bool := match P.underlying t, a, b with
  | some (.int _), .int k x, .int k' y => match decide (k = k') with | true => some (decide (x = y)) | false => none
  | some .bool, .bool x, .bool y => some (decide (x = y))
  | some .string, .string x, .string y => some (decide (x = y))
  | _, _, _ => none
theorem scalEq_run {t : TypeId} {a b : Value} {r : Bool} (h : scalEq P t a b = some r) (d : Nat) (w : World) : (Op.equalIn (d + 1) t a b).run P w = .ok r w := by
  unfold scalEq at h
  split at h
  · next k0 k x k' y hu =>
    split at h
    · next hk => cases of_decide_eq_true hk; cases h; rw [run_equalIn_int w d t k _ x y hu]; congr 1
    · cases h
  · next x y hu => cases h; rw [run_equalIn_bool' w d t x y hu]; congr 1
  · next x y hu =>
    cases h; rw [run_equalIn_string w d t x y hu]
    congr 1
    exact Bool.eq_iff_iff.2 (by simp [toList_inj])
  · cases h
def partV (P : Program) (t : TypeId) (xs : List Value) (off : Nat) : Option Value := match P.underlying t with
  | some (.struct _) | some (.array _ _) | none => none
  | some _ => xs[off]?
theorem partV_run {t : TypeId} {xs : List Value} {off : Nat} {v : Value} (h : partV P t xs off = some v) (w : World) : (part t xs.toArray off).run P w = .ok v w := by
  unfold partV at h
  cases hu : P.underlying t with
  | none => rw [hu] at h; cases h
  | some d =>
    rw [hu] at h
    cases d <;> first | (simp only at h; cases h; done) | (simp only at h; simp [part, isAgg, run_underlying hu, h])
def fieldsEq (P : Program) (xs ys : List Value) : List Field → Option Bool
  | [] => some true
  | f :: fs => match decide (f.name ≠ "_"), partV P f.type xs f.offset, partV P f.type ys f.offset with
    | true, some a, some b => match scalEq P f.type a b, fieldsEq P xs ys fs with
      | some r, some s => some (r && s)
      | _, _ => none
    | _, _, _ => none
theorem fieldsEq_run {xs ys : List Value} (d : Nat) (w : World) : ∀ {fs : List Field} {r : Bool}, fieldsEq P xs ys fs = some r → (Op.eqFields (d + 1) xs.toArray ys.toArray fs).run P w = .ok r w
  | [], r, h => by cases h; simp [Op.eqFields]
  | f :: fs, r, h => by
    unfold fieldsEq at h
    split at h
    · next a b hn ha hb =>
      split at h
      · next q s hq hs =>
        cases h
        have ih := fieldsEq_run d w hs
        simp only [Op.eqFields, if_pos (of_decide_eq_true hn), Sem.run_bind, partV_run ha, partV_run hb, Result.andThen_ok, scalEq_run hq]
        cases q
        · simp
        · simp [ih]
      · cases h
    · cases h
def structEq (P : Program) (t : TypeId) (xs ys : List Value) : Option Bool := match P.underlying t, P.stoodInHeld t, P.eqGuardType P.depth t with
  | some (.struct fs), false, false => fieldsEq P xs ys fs.toList
  | _, _, _ => none
theorem structEq_spec {t : TypeId} {xs ys : List Value} {r : Bool} (h : structEq P t xs ys = some r) (w : World) : (Op.equalIn 10000 t (.agg xs.toArray) (.agg ys.toArray)).run P w = .ok r w ∧ P.eqGuardType P.depth t = false := by
  unfold structEq at h
  split at h
  · next fs hu hs hg =>
    refine ⟨?_, hg⟩
    have hf : P.fieldsOf t = fs := by simp [Program.fieldsOf, hu]
    rw [show (10000 : Nat) = 9998 + 1 + 1 from rfl, run_equalIn_struct w (9998 + 1) t _ _ (by rw [hf]; exact hu) hs, hf]
    exact fieldsEq_run 9998 w h
  · cases h
def litsOf : List A → Option (List Value)
  | [] => some []
  | .d (.lit v) :: als => (litsOf als).map (v :: ·)
  | _ => none
theorem litsOf_spec {m : Mp} {S : Nat → Prop} {w : World} : ∀ {als : List A} {us vs : List Value}, litsOf als = some us → Reps m S w als vs → vs = us
  | [], us, vs, h, hr => by cases h; simp only [Reps] at hr; exact hr
  | a :: als, us, vs, h, hr => by
    unfold litsOf at h
    split at h
    · next heq => cases heq
    · next v als' heq =>
      cases heq
      cases hl : litsOf als with
      | none => rw [hl] at h; cases h
      | some l =>
        rw [hl] at h; cases h
        simp only [Reps] at hr
        obtain ⟨u, r, rfl, h1, h2⟩ := hr
        simp only [Rep] at h1
        unfold RepD at h1
        rw [h1.1, litsOf_spec hl h2]
    · cases h
theorem op_agg_lits {x : Operand} {als : List A} {us : List Value} {R : List Loc} (hx : opA st x = .agg als) (hl : litsOf als = some us) (hR : ∀ l ∈ locOf x, l ∈ R) {st' : St} (hag : ∀ l ∈ R, st'.at l = st.at l) {cx : Cx} {m : Mp} {S : Nat → Prop} {a : Act} {w : World} (hs : Sim cx m S a w st') : a.eval x = .agg us.toArray := by
  have hr := op_rep hx hR hag hs
  simp only [Rep] at hr
  obtain ⟨vs, h1, h2⟩ := hr
  have := litsOf_spec hl h2
  rw [h1]; congr 1
  apply Array.ext'; simpa using this
theorem op_neq_struct {t u : TypeId} {x y : Operand} {la lb : List A} {us vs : List Value} {r : Bool} (ho : o.op = .binOp .neq t x y u) (hx : opA st x = .agg la) (hy : opA st y = .agg lb) (h1 : litsOf la = some us) (h2 : litsOf lb = some vs) (h : structEq P t us vs = some r) : OpRun P o st (locsOf [x, y]) (.d (.lit (.bool (!r)))) [] := by
  refine .pure fun st' hag cx m S a w hs => ⟨.bool (!r), ?_, by simp only [Rep]; unfold RepD; exact ⟨rfl, rfl⟩⟩
  have e1 := op_agg_lits hx h1 (R := locsOf [x, y]) (fun l h => by simp [locsOf, h]) hag hs
  have e2 := op_agg_lits hy h2 (R := locsOf [x, y]) (fun l h => by simp [locsOf, h]) hag hs
  have k := structEq_spec h w
  simp only [execOp, ho, e1, e2, Sem.run_bind, run_eqGuard_agg w _ _ _ _ _ _ k.2, Result.andThen_ok, run_neq_struct, k.1]
  simp
end
/-! ### from a contract to a law -/
theorem law_join {P : Program} {f : FuncId} {args : List A} {W : World} {vs : List Value} (h : GCall P f args [] (.d (.lit (.bool true))) []) (hr : Reps (fun _ => none) (fun b => b < W.heap.size) W args vs) : Calls P f vs.toArray W fun e W' => ∃ v, e = .returned v ∧ Below W.heap.size W W' ∧ v = .bool true := by
  refine Calls.mono (h (fun _ => none) (fun b => b < W.heap.size) W vs ?_ hr) fun e w' ⟨v, m', S', he, h1, h2⟩ => ⟨v, he, ⟨h1.os, h1.tape, h1.output, h1.size, fun k hk => h1.old k hk fun ⟨id, p, hp, _⟩ => by cases hp⟩, ?_⟩
  · exact ⟨rfl, rfl, rfl, Nat.le_refl _, fun _ _ _ => rfl, fun _ h => h, fun b hb => ⟨.inl hb, hb⟩, fun id p b hp => (by cases hp), fun id id' p p' b _ hp => (by cases hp), fun id => rfl, Le.refl _⟩
  · simp only [Rep] at h2; unfold RepD at h2; exact h2.1
end Go.Proofs.Ytdpmojhejidhiaa.K

namespace Go.Proofs.Ytdpmojhejidhiaa.K
open Go.ChangeShapes Go.WideShapes Go.ChangeAt Go.RowKit

/-- These cells are data of this type. -/
inductive TD (P : Program) : TypeId → List D → Prop
  | bool {t : TypeId} (h : P.underlying t = some .bool) (b : Bool) : TD P t [.lit (.bool b)]
  | int {t : TypeId} {k : IntKind} (h : P.underlying t = some (.int k)) (n : Int) (hw : (Lit.int k n).wf = true) : TD P t [.lit (.int k n)]
  | str {t : TypeId} (h : P.underlying t = some .string) (s : ByteArray) (hs : s.size ≤ maxLen) : TD P t [.lit (.string s)]
  | slice {t e : TypeId} (h : P.underlying t = some (.slice e)) (rows : List (List D)) (hn : rows.length ≤ maxLen) (hr : ∀ r ∈ rows, TD P e r) : TD P t [.sl rows.length rows.flatten]
  | struct {t : TypeId} {fs : Array Field} (h : P.underlying t = some (.struct fs)) (parts : List (List D)) (hl : parts.length = fs.toList.length) (hp : ∀ (i : Nat) (f : Field) (p : List D), fs.toList[i]? = some f → parts[i]? = some p → TD P f.type p) : TD P t parts.flatten
  | array {t : TypeId} {n : Nat} {e : TypeId} (h : P.underlying t = some (.array n e)) (parts : List (List D)) (hl : parts.length = n) (hp : ∀ p ∈ parts, TD P e p) : TD P t parts.flatten
def tightF (P : Program) : Nat → List Field → Option Nat
  | off, [] => some off
  | off, f :: fs => match decide (f.offset = off) with | true => tightF P (off + P.cellsOf f.type) fs | false => none
def plainT (P : Program) : Nat → TypeId → Bool
  | 0, _ => false
  | d + 1, t => match P.underlying t with
    | some .bool | some (.int _) | some .string => true
    | some (.slice e) => plainT P d e
    | some (.struct fs) => fs.toList.all (fun f => plainT P d f.type) && decide (tightF P 0 fs.toList = some (P.cellsOf t))
    | some (.array n e) => plainT P d e && decide (P.cellsOf t = n * P.cellsOf e)
    | _ => false
section
variable {S : Nat → Prop} {w : World}
theorem repsD_one {x : D} {v : Value} (h : RepD S w x v) : RepsD S w [x] [v] := ⟨rfl, fun i a b ha hb => by
  match i with
  | 0 => simp only [List.getElem?_cons_zero, Option.some.injEq] at ha hb; subst ha; subst hb; exact h
  | i + 1 => simp at ha⟩
theorem repsD_nil : RepsD S w [] [] := ⟨rfl, fun i a b ha => by simp at ha⟩
theorem repsD_app {xs ys : List D} {vs us : List Value} (h : RepsD S w xs vs) (k : RepsD S w ys us) : RepsD S w (xs ++ ys) (vs ++ us) := by
  refine ⟨by rw [List.length_append, List.length_append, h.1, k.1], fun i x u hx hu => ?_⟩
  rw [List.getElem?_append] at hx hu
  rw [h.1] at hu
  split at hx
  · rename_i hi; rw [if_pos hi] at hu; exact h.2 i x u hx hu
  · rename_i hi; rw [if_neg hi] at hu; exact k.2 _ x u hx hu
theorem reps_of_repsD {m : Mp} : ∀ {xs : List D} {vs : List Value}, RepsD S w xs vs → Reps m S w (xs.map A.d) vs
  | [], vs, h => by simp only [List.map_nil, Reps]; exact List.length_eq_zero_iff.1 h.1
  | x :: xs, [], h => by have := h.1; simp at this
  | x :: xs, v :: vs, h => by
    simp only [List.map_cons, Reps]
    exact ⟨v, vs, rfl, by simp only [Rep]; exact h.2 0 x v rfl rfl, reps_of_repsD ⟨by have := h.1; simpa using this, fun i a b ha hb => h.2 (i + 1) a b (by simpa using ha) (by simpa using hb)⟩⟩
end
theorem flat_uniform {α : Type} {k : Nat} : ∀ {rows : List (List α)}, (∀ r ∈ rows, r.length = k) → ∀ {j : Nat} {c : α}, rows.flatten[j]? = some c → ∃ (i r : Nat) (row : List α), rows[i]? = some row ∧ row[r]? = some c ∧ r < k ∧ j = i * k + r
  | [], _, j, c, h => by simp at h
  | row :: rows, hk, j, c, h => by
    rw [List.flatten_cons, List.getElem?_append] at h
    have hl := hk row (by simp)
    split at h
    · next hj => exact ⟨0, j, row, rfl, h, by omega, by omega⟩
    · next hj =>
      obtain ⟨i, r, row', h1, h2, h3, h4⟩ := flat_uniform (fun r hr => hk r (by simp [hr])) h
      refine ⟨i + 1, r, row', by simpa using h1, h2, h3, ?_⟩
      rw [Nat.add_mul]; omega
theorem cells_each {w : World} {a : Addr} {n : Nat} {cs : List Value} (h : w.cells? 0 a n = some cs) : cs.length = n ∧ ∀ i u, cs[i]? = some u → w.cell? (a.add i) = some u := by
  unfold World.cells? at h
  rw [if_pos (Nat.zero_le _)] at h
  have hl := mapM_some_length h
  rw [List.length_range] at hl
  refine ⟨hl, fun i u hu => ?_⟩
  have hi : i < n := by rw [← hl]; exact (List.getElem?_eq_some_iff.1 hu).1
  have := mapM_some_get h i i (by simp [hi])
  rw [this]; exact hu
section
variable {H : Type} {enc : TypeId × Value → H} {P : Program} {W : World}
/-- What is opened at one place. -/
def Opened (P : Program) (W : World) (t : TypeId) (cs : List Value) : Prop := ∃ ds, TD P t ds ∧ RepsD (fun b => b < W.heap.size) W ds cs ∧ ∀ c ∈ cs, c.oneCell' = true
theorem parts_array {e : TypeId} {k : Nat} {cs : List Value} : ∀ (m i : Nat), (∀ j, i ≤ j → j < i + m → Opened P W e ((cs.drop (j * k)).take k)) → cs.length = (i + m) * k →
    ∃ parts : List (List D), parts.length = m ∧ (∀ p ∈ parts, TD P e p) ∧ RepsD (fun b => b < W.heap.size) W parts.flatten (cs.drop (i * k)) ∧ ∀ c ∈ cs.drop (i * k), c.oneCell' = true
  | 0, i, _, hl => ⟨[], rfl, by simp, by rw [List.drop_of_length_le (by rw [hl]; simp)]; exact repsD_nil, by rw [List.drop_of_length_le (by rw [hl]; simp)]; simp⟩
  | m + 1, i, h, hl => by
    obtain ⟨ds, h1, h2, h3⟩ := h i (Nat.le_refl _) (by omega)
    obtain ⟨parts, q1, q2, q3, q4⟩ := parts_array m (i + 1) (fun j hj hj2 => h j (by omega) (by omega)) (by rw [hl]; congr 1; omega)
    have e1 : cs.drop (i * k) = (cs.drop (i * k)).take k ++ cs.drop ((i + 1) * k) := by
      rw [show (i + 1) * k = i * k + k by rw [Nat.add_mul]; omega, ← List.drop_drop, List.take_append_drop]
    refine ⟨ds :: parts, by simp [q1], fun p hp => ?_, ?_, fun c hc => ?_⟩
    · rcases List.mem_cons.1 hp with rfl | hp
      · exact h1
      · exact q2 p hp
    · rw [e1, List.flatten_cons]; exact repsD_app h2 q3
    · rw [e1] at hc
      rcases List.mem_append.1 hc with hc | hc
      · exact h3 c hc
      · exact q4 c hc
theorem parts_struct {cs : List Value} : ∀ (fs : List Field) (off : Nat), tightF P off fs = some cs.length → (∀ f ∈ fs, Opened P W f.type ((cs.drop f.offset).take (P.cellsOf f.type))) →
    ∃ parts : List (List D), parts.length = fs.length ∧ (∀ (i : Nat) (f : Field) (p : List D), fs[i]? = some f → parts[i]? = some p → TD P f.type p) ∧ RepsD (fun b => b < W.heap.size) W parts.flatten (cs.drop off) ∧ ∀ c ∈ cs.drop off, c.oneCell' = true
  | [], off, ht, _ => by
    unfold tightF at ht; cases ht
    exact ⟨[], rfl, fun i f p h => by simp at h, by rw [List.drop_length]; exact repsD_nil, by rw [List.drop_length]; simp⟩
  | f :: fs, off, ht, h => by
    unfold tightF at ht
    split at ht
    · next ho =>
      have ho := of_decide_eq_true ho
      obtain ⟨ds, h1, h2, h3⟩ := h f (by simp)
      obtain ⟨parts, q1, q2, q3, q4⟩ := parts_struct fs _ ht fun g hg => h g (by simp [hg])
      rw [ho] at h2 h3
      have e1 : cs.drop off = (cs.drop off).take (P.cellsOf f.type) ++ cs.drop (off + P.cellsOf f.type) := by rw [← List.drop_drop, List.take_append_drop]
      refine ⟨ds :: parts, by simp [q1], fun i g p hg hp => ?_, ?_, fun c hc => ?_⟩
      · match i with
        | 0 => simp only [List.getElem?_cons_zero, Option.some.injEq] at hg hp; subst hg; subst hp; exact h1
        | i + 1 => exact q2 i g p (by simpa using hg) (by simpa using hp)
      · rw [e1, List.flatten_cons]; exact repsD_app h2 q3
      · rw [e1] at hc
        rcases List.mem_append.1 hc with hc | hc
        · exact h3 c hc
        · exact q4 c hc
    · cases ht
theorem td_open : ∀ (d : Nat) {t : TypeId}, plainT P d t = true → ∀ {fuel : Nat} {cs : List Value} {x : DataW H × List MemPlace}, DataW.trod enc P W 0 (fun _ => true) true fuel t cs = some x → Opened P W t cs
  | 0, t, hp, _, _, _, _ => by cases hp
  | d + 1, t, hp, fuel, cs, x, h => by
    unfold plainT at hp
    split at hp
    · next hu => obtain ⟨b, rfl, _⟩ := DataW.trod_bool hu h; exact ⟨_, .bool hu b, repsD_one (by unfold RepD; exact ⟨rfl, rfl⟩), fun c hc => by simp at hc; subst hc; rfl⟩
    · next k hu => obtain ⟨n, rfl, _, hw⟩ := DataW.trod_int hu h; exact ⟨_, .int hu n hw, repsD_one (by unfold RepD; exact ⟨rfl, rfl⟩), fun c hc => by simp at hc; subst hc; rfl⟩
    · next hu => obtain ⟨s, rfl, _, hs⟩ := DataW.trod_string hu h; exact ⟨_, .str hu s hs, repsD_one (by unfold RepD; exact ⟨rfl, rfl⟩), fun c hc => by simp at hc; subst hc; rfl⟩
    · next e hu =>
      rcases DataW.trod_slice hu h with ⟨rfl, _⟩ | ⟨a, len, cap, elems, rest, n, _, rfl, _, _, hl, hm, hlen, hel, _, _⟩
      · exact ⟨_, .slice hu [] (by simp) (by simp), repsD_one (by unfold RepD; exact ⟨none, 0, rfl, Nat.le_refl _, Nat.zero_le _, fun _ => ⟨rfl, rfl⟩, by simp only [List.flatten_nil, RepDs]⟩), fun c hc => by simp at hc; subst hc; rfl⟩
      · have each : ∀ i : Nat, ∃ r : List D, i < len → TD P e r ∧ r.length = P.cellsOf e ∧ ∀ j y, r[j]? = some y → ∃ u, W.cell? (a.add (i * P.cellsOf e + j)) = some u ∧ u.oneCell' = true ∧ RepD (fun b => b < W.heap.size) W y u := by
          intro i
          by_cases hi : i < len
          · have h1 := hel i hi
            rw [List.getElem?_eq_getElem (by omega), Option.bind_eq_some_iff] at h1
            obtain ⟨ci, hci, hti⟩ := h1
            obtain ⟨ds, k1, k2, k3⟩ := td_open d hp hti
            obtain ⟨c1, c2⟩ := cells_each hci
            refine ⟨ds, fun _ => ⟨k1, by rw [← k2.1, c1], fun j y hy => ?_⟩⟩
            have hj : j < ci.length := by rw [k2.1]; exact (List.getElem?_eq_some_iff.1 hy).1
            have h5 := c2 j _ (List.getElem?_eq_getElem hj)
            rw [Addr.add_add] at h5
            exact ⟨_, h5, k3 _ (List.getElem_mem hj), k2.2 j y _ hy (List.getElem?_eq_getElem hj)⟩
          · exact ⟨[], fun hh => absurd hh hi⟩
        obtain ⟨g, hg⟩ := Classical.axiomOfChoice each
        have hrl : ((List.range len).map g).length = len := by simp
        have hmem : ∀ r ∈ (List.range len).map g, ∃ i, i < len ∧ g i = r := fun r hr => by
          obtain ⟨i, hi, rfl⟩ := List.mem_map.1 hr
          exact ⟨i, List.mem_range.1 hi, rfl⟩
        have ht := TD.slice hu ((List.range len).map g) (by rw [hrl]; omega) fun r hr => by
          obtain ⟨i, hi, rfl⟩ := hmem r hr
          exact (hg i hi).1
        rw [hrl] at ht
        refine ⟨_, ht, repsD_one ?_, fun c hc => by simp at hc; subst hc; rfl⟩
        unfold RepD
        refine ⟨some a, cap, rfl, hl, hm, fun hh => (by cases hh), RepDs.of _ _ _ fun j c hc => ?_⟩
        obtain ⟨i, r, row, h1, h2, h3, rfl⟩ := flat_uniform (k := P.cellsOf e) (fun r hr => by obtain ⟨i, hi, rfl⟩ := hmem r hr; exact (hg i hi).2.1) hc
        have hi : i < len := by have := (List.getElem?_eq_some_iff.1 h1).1; rw [hrl] at this; exact this
        rw [List.getElem?_map, List.getElem?_range hi] at h1
        cases h1
        obtain ⟨u, h5, h6, h7⟩ := (hg i hi).2.2 r c h2
        refine ⟨a, u, rfl, by rw [Nat.zero_add]; exact h5, ?_, h6, h7⟩
        have := World.block_lt_of_cell? W _ h5
        rw [add_block] at this; exact this
    · next fs hu =>
      rw [Bool.and_eq_true, List.all_eq_true] at hp
      obtain ⟨xs, n, rfl, rfl, hl, hlen, hf⟩ := DataW.trod_struct hu h
      have ht := of_decide_eq_true hp.2
      rw [← hl] at ht
      obtain ⟨parts, q1, q2, q3, q4⟩ := parts_struct (W := W) (cs := cs) fs.toList 0 ht fun f hm => by
        obtain ⟨i, hi⟩ := List.getElem?_of_mem hm
        have h1 := hf i f (by simpa using hi)
        have hlt : i < xs.length := by rw [hlen]; have := (List.getElem?_eq_some_iff.1 hi).1; simpa using this
        rw [List.getElem?_eq_getElem hlt] at h1
        exact td_open d (hp.1 f hm) h1
      exact ⟨_, .struct hu parts q1 q2, q3, q4⟩
    · next n e hu =>
      rw [Bool.and_eq_true] at hp
      obtain ⟨xs, m, rfl, rfl, hl, hlen, hf⟩ := DataW.trod_array hu h
      obtain ⟨parts, q1, q2, q3, q4⟩ := parts_array (P := P) (W := W) (e := e) (k := P.cellsOf e) (cs := cs) n 0 (fun j _ hj => by
        have h1 := hf j (by omega)
        rw [List.getElem?_eq_getElem (by omega)] at h1
        exact td_open d hp.1 h1) (by rw [hl, of_decide_eq_true hp.2, Nat.zero_add])
      rw [Nat.zero_mul, List.drop_zero] at q3 q4
      exact ⟨_, .array hu parts q1 q2, q3, q4⟩
    · cases hp
theorem reps_nil {m : Mp} {S : Nat → Prop} {w : World} : Reps m S w [] [] := by simp only [Reps]
theorem reps_cons {m : Mp} {S : Nat → Prop} {w : World} {a : A} {as' : List A} {v : Value} {r : List Value} (h : Rep m S w a v) (k : Reps m S w as' r) : Reps m S w (a :: as') (v :: r) := by simp only [Reps]; exact ⟨v, r, rfl, h, k⟩
theorem rep_agg {m : Mp} {S : Nat → Prop} {w : World} {as' : List A} {cs : Array Value} (h : Reps m S w as' cs.toList) : Rep m S w (.agg as') (.agg cs) := by simp only [Rep]; exact ⟨cs, rfl, h⟩
theorem rep_d {m : Mp} {S : Nat → Prop} {w : World} {x : D} {v : Value} (h : RepD S w x v) : Rep m S w (.d x) v := by simp only [Rep]; exact h
theorem rep_lit {m : Mp} {S : Nat → Prop} {w : World} {v : Value} (h : v.oneCell' = true) : Rep m S w (.d (.lit v)) v := rep_d (by unfold RepD; exact ⟨rfl, h⟩)
theorem open_agg {t : TypeId} {v : Value} {dd : DataW H} {ps : List MemPlace} {base : Nat} {r : Reach} (d : Nat) (hp : plainT P d t = true) (hs : (aggSize P t).isSome = true) (hv : Value.okWide P W r base t v) (h : DataW.Trod enc P W 0 (fun _ => true) true t v dd ps) : ∃ ds cs, v = .agg cs ∧ TD P t ds ∧ RepsD (fun b => b < W.heap.size) W ds cs.toList := by
  obtain ⟨fuel, hf⟩ := h
  obtain ⟨ds, h1, h2, h3⟩ := td_open d hp hf
  have : ∃ cs, v = .agg cs := by
    unfold Value.okWide at hv
    unfold aggSize at hs
    split at hv
    · exact ⟨_, hv.choose_spec.1⟩
    · exact ⟨_, hv.choose_spec.1⟩
    · exfalso
      split at hs <;> simp_all
  obtain ⟨cs, rfl⟩ := this
  exact ⟨ds, cs, rfl, h1, h2⟩
end
section
variable {P : Program} {t : TypeId} {ds : List D}
theorem TD.of_int {k : IntKind} (hu : P.underlying t = some (.int k)) (h : TD P t ds) : ∃ n, ds = [.lit (.int k n)] ∧ (Lit.int k n).wf = true := by
  cases h with
  | int h n hw => rw [hu] at h; cases h; exact ⟨n, rfl, hw⟩
  | _ h => rw [hu] at h; cases h
theorem TD.of_str (hu : P.underlying t = some .string) (h : TD P t ds) : ∃ s, ds = [.lit (.string s)] ∧ s.size ≤ maxLen := by
  cases h with
  | str h s hs => exact ⟨s, rfl, hs⟩
  | _ h => rw [hu] at h; cases h
theorem rows_enc {α : Type} {enc : α → List D} {Q : α → Prop} : ∀ {rows : List (List D)}, (∀ r ∈ rows, ∃ x, r = enc x ∧ Q x) → ∃ l : List α, rows = l.map enc ∧ ∀ x ∈ l, Q x
  | [], _ => ⟨[], rfl, by simp⟩
  | r :: rows, h => by
    obtain ⟨x, rfl, hx⟩ := h r (by simp)
    obtain ⟨l, rfl, hl⟩ := rows_enc (rows := rows) fun r hr => h r (List.mem_cons_of_mem _ hr)
    refine ⟨x :: l, rfl, fun y hy => ?_⟩
    rcases List.mem_cons.1 hy with rfl | hy
    · exact hx
    · exact hl y hy
theorem TD.of_slice {α : Type} {enc : α → List D} {Q : α → Prop} {e : TypeId} (hu : P.underlying t = some (.slice e)) (he : ∀ {r}, TD P e r → ∃ x, r = enc x ∧ Q x) (h : TD P t ds) : ∃ l : List α, ds = [.sl l.length (flatD enc l)] ∧ l.length ≤ maxLen ∧ ∀ x ∈ l, Q x := by
  cases h with
  | slice h rows hn hr =>
    rw [hu] at h; cases h
    obtain ⟨l, rfl, hl⟩ := rows_enc fun r hm => he (hr r hm)
    exact ⟨l, by rw [List.length_map, ← List.flatMap_def]; rfl, by simpa using hn, hl⟩
  | _ h => rw [hu] at h; cases h
def TDs (P : Program) : List Field → List D → Prop
  | [], ds => ds = []
  | f :: fs, ds => ∃ p q, ds = p ++ q ∧ TD P f.type p ∧ TDs P fs q
theorem tds_of : ∀ {fs : List Field} {parts : List (List D)}, parts.length = fs.length → (∀ (i : Nat) (f : Field) (p : List D), fs[i]? = some f → parts[i]? = some p → TD P f.type p) → TDs P fs parts.flatten
  | [], [], _, _ => rfl
  | f :: fs, p :: parts, hl, h => ⟨p, parts.flatten, rfl, h 0 f p rfl rfl, tds_of (by simpa using hl) fun i g q hg hq => h (i + 1) g q (by simpa using hg) (by simpa using hq)⟩
theorem TD.of_struct {fs : Array Field} (hu : P.underlying t = some (.struct fs)) (h : TD P t ds) : TDs P fs.toList ds := by
  cases h with
  | struct h parts hl hp => rw [hu] at h; cases h; exact tds_of hl hp
  | _ h => rw [hu] at h; cases h
theorem TD.of_array {α : Type} {enc : α → List D} {Q : α → Prop} {n : Nat} {e : TypeId} (hu : P.underlying t = some (.array n e)) (he : ∀ {r}, TD P e r → ∃ x, r = enc x ∧ Q x) (h : TD P t ds) : ∃ l : List α, ds = flatD enc l ∧ l.length = n ∧ ∀ x ∈ l, Q x := by
  cases h with
  | array h parts hl hr =>
    rw [hu] at h; cases h
    obtain ⟨l, rfl, hq⟩ := rows_enc fun r hm => he (hr r hm)
    exact ⟨l, by rw [← List.flatMap_def]; rfl, by simpa using hl, hq⟩
  | _ h => rw [hu] at h; cases h
end
end Go.Proofs.Ytdpmojhejidhiaa.K

namespace Go.Proofs.Ytdpmojhejidhiaa.K
open Go.RowKit Go.Lib

/-- Short names for what stands in states. -/
abbrev A.i (n : Int) : A := .d (.lit (.int .i64 n))
abbrev A.y (b : UInt8) : A := .d (byteD b)
abbrev A.b (b : Bool) : A := .d (.lit (.bool b))
/-! ### what models are made of -/
/-- An element, by a whole number. -/
def geti {α : Type} (l : List α) (i : Int) : Option α := if 0 ≤ i then l[i.toNat]? else none
/-- Two lists side by side, if they are not too long. -/
def app {α : Type} (l r : List α) : Option (List α) := if l.length + r.length ≤ 1000000000 then some (l ++ r) else none
/-- The part from a up to b. -/
def cut {α : Type} (l : List α) (a b : Int) : Option (List α) := if 0 ≤ a ∧ a ≤ b ∧ b ≤ (l.length : Int) then some ((l.drop a.toNat).take (b.toNat - a.toNat)) else none
def chk {α : Type} (p : Prop) [Decidable p] (x : Option α) : Option α := if p then x else none
def toS (l : List UInt8) : ByteArray := ⟨l.toArray⟩
abbrev A.s (l : List UInt8) : A := .d (.lit (.string (toS l)))
abbrev A.l {α : Type} (enc : α → List D) (l : List α) : A := .d (.sl l.length (flatD enc l))
def toU8 (n : Int) : UInt8 := UInt8.ofNat (n % 256).toNat
section
variable {α β : Type} {r : β}
theorem bnd {a : Option α} {f : α → Option β} (h : Option.bind a f = some r) : ∃ x, a = some x ∧ f x = some r := by
  cases a with
  | none => cases h
  | some x => exact ⟨x, rfl, h⟩
theorem chk_some {p : Prop} [Decidable p] {x : Option β} (h : chk p x = some r) : p ∧ x = some r := by
  unfold chk at h
  split at h
  · exact ⟨‹_›, h⟩
  · cases h
variable {l s : List α} {x : α} {i a b n c : Int}
theorem geti_some (h : geti l i = some x) : i = (i.toNat : Int) ∧ l[i.toNat]? = some x := by
  unfold geti at h
  split at h
  · exact ⟨by omega, h⟩
  · cases h
theorem getlt {k : Nat} (h : l[k]? = some x) : k < l.length := (List.getElem?_eq_some_iff.1 h).1
theorem app_some {x : List α} (h : app l s = some x) : x = l ++ s ∧ l.length + s.length ≤ 1000000000 := by
  unfold app at h
  split at h
  · cases h; exact ⟨rfl, ‹_›⟩
  · cases h
theorem cut_some {x : List α} (h : cut l a b = some x) : a = (a.toNat : Int) ∧ b = (b.toNat : Int) ∧ a.toNat ≤ b.toNat ∧ b.toNat ≤ l.length ∧ x = (l.drop a.toNat).take (b.toNat - a.toNat) := by
  unfold cut at h
  split at h
  · cases h; refine ⟨by omega, by omega, by omega, by omega, rfl⟩
  · cases h
end
theorem app_bytes {n k by_ : Nat} (h : n + k ≤ 1000000000) (hb : by_ ≤ 140000) : (n + k) * by_ ≤ 140737488355328 := by
  have := Nat.mul_le_mul h hb; omega
/-! ### typed data as cells -/
def encI (k : IntKind) (n : Int) : List D := [.lit (.int k n)]
def encU8 (b : UInt8) : List D := [byteD b]
def encS (l : List UInt8) : List D := [.lit (.string (toS l))]
def encL {α : Type} (enc : α → List D) (l : List α) : List D := [.sl l.length (flatD enc l)]
theorem encU8_len (b : UInt8) : (encU8 b).length = 1 := rfl
theorem encS_len (l : List UInt8) : (encS l).length = 1 := rfl
theorem flatU8 (l : List UInt8) : flatD encU8 l = bytesD l := by
  induction l with
  | nil => rfl
  | cons x l ih => rw [flatD_cons, ih]; rfl
theorem lit_tf {b c : Bool} (h : b = c) : A.d (.lit (.bool b)) = .d (.lit (.bool c)) := by rw [h]
theorem lit_str {a b : ByteArray} (h : a = b) : A.d (.lit (.string a)) = .d (.lit (.string b)) := by rw [h]
theorem toS_inj {a b : List UInt8} : toS a = toS b ↔ a = b := by simp [toS]
theorem toS_app (a b : List UInt8) : toS a ++ toS b = toS (a ++ b) := by
  ext1; simp [toS]
theorem toS_cut {l x : List UInt8} {a b : Nat} (h : x = (l.drop a).take (b - a)) : (toS l).extract a b = toS x := by
  subst h
  ext1
  rw [ByteArray.data_extract]
  apply Array.ext'
  rw [Array.toList_extract, List.extract_eq_take_drop]; rfl
theorem u8w (n : Int) : IntKind.u8.wrap n = ((toU8 n).toNat : Int) := by
  have h : (UInt8.ofNat (n % 256).toNat).toNat = (n % 256).toNat % 256 := UInt8.toNat_ofNat
  unfold toU8
  rw [h, K.wrap_u8]
  omega
section
variable {α : Type} {enc : α → List D} {sz : Nat} {l : List α} {i k : Nat} {x y : α} {cs : List D}
theorem flat_split (h : ∀ a, (enc a).length = sz) (hx : l[i]? = some x) : flatD enc l = flatD enc (l.take i) ++ (enc x ++ flatD enc (l.drop (i + 1))) ∧ (flatD enc (l.take i)).length = i * sz := by
  have hi := getlt hx
  have e : l = l.take i ++ (x :: l.drop (i + 1)) := by
    conv => lhs; rw [← List.take_append_drop i l, List.drop_eq_getElem_cons hi]
    rw [(List.getElem?_eq_some_iff.1 hx).2]
  refine ⟨?_, by rw [flatD_length h, List.length_take, Nat.min_eq_left (by omega)]⟩
  conv => lhs; rw [e]
  rw [flatD_append, flatD_cons]
theorem flat_fitk (h : ∀ a, (enc a).length = sz) (hi : i < l.length) (hk : k + cs.length ≤ sz) : i * sz + k + cs.length ≤ (flatD enc l).length := by
  rw [flatD_length h]
  have := Nat.mul_le_mul_right sz (show i + 1 ≤ l.length from hi)
  rw [Nat.add_mul] at this; omega
theorem flat_setk (h : ∀ a, (enc a).length = sz) (hx : l[i]? = some x) (hy : putC (enc x) k cs = enc y) (hk : k + cs.length ≤ sz) : putC (flatD enc l) (i * sz + k) cs = flatD enc (l.set i y) := by
  obtain ⟨e, hl⟩ := flat_split h hx
  have hi := getlt hx
  have e2 : l.set i y = l.take i ++ (y :: l.drop (i + 1)) := by rw [List.set_eq_take_append_cons_drop, if_pos hi]
  rw [e2, flatD_append, flatD_cons, ← hy, e]
  have hxl := h x
  generalize flatD enc (l.take i) = a at hl ⊢
  generalize flatD enc (l.drop (i + 1)) = b
  unfold putC
  rw [List.take_append, List.drop_append, List.take_of_length_le (show a.length ≤ i * sz + k by omega), List.drop_of_length_le (show a.length ≤ i * sz + k + cs.length by omega), List.nil_append, hl]
  rw [show i * sz + k - i * sz = k by omega, show i * sz + k + cs.length - i * sz = k + cs.length by omega, List.take_append_of_le_length (by omega), List.drop_append_of_le_length (by omega)]
  simp only [List.append_assoc]
theorem flat_cut (h : ∀ a, (enc a).length = sz) {a b : Nat} : ((flatD enc l).drop (a * sz)).take ((b - a) * sz) = flatD enc ((l.drop a).take (b - a)) := by
  rw [flat_dropL h, flat_take h]
variable {r z : List α}
end
end Go.Proofs.Ytdpmojhejidhiaa.K

namespace Go.Proofs.Ytdpmojhejidhiaa.K
open Go.RowKit Go.Lib

section
variable {P : Program} {K : Exit → St → Prop} {b c : Code} {st : St}
/-- Ways that meet: what is behind is walked once. -/
theorem AWP.cutJ {α : Type} (S : α → St) (I : α → Prop) (hb : ∀ x, I x → AWP P K b (S x)) (h : (∀ x, I x → AWP P K b (S x)) → AWP P K (.seq c b) st) : AWP P K (.seq c b) st := h hb
theorem Rounds.to_ {n : Nat} {st' : St} (e : st = st') (h : Rounds P K c n st') : Rounds P K c n st := e ▸ h
end
/-- Own rows are frozen; nil stays nil. -/
def Blk.viewN (H : List Blk) (vids : List Nat) : Blk → Blk
  | .box xs => .box (A.views H vids xs)
  | b => b
def frzN (H : List Blk) (vids : List Nat) : List Blk → Nat → List Blk
  | [], _ => []
  | b :: l, k => (match inB vids k with | true => b.frz | false => b.viewN H vids) :: frzN H vids l (k + 1)
theorem frzN_get {H : List Blk} {vids : List Nat} : ∀ (l : List Blk) (k j : Nat), (frzN H vids l k).getD j .unborn = if (k + j) ∈ vids then (l.getD j .unborn).frz else (l.getD j .unborn).viewN H vids
  | [], k, j => by simp only [frzN, List.getD_nil]; split <;> rfl
  | b :: l, k, 0 => by
    simp only [frzN, List.getD_cons_zero, Nat.add_zero]
    cases h : inB vids k with
    | true => rw [if_pos (inB_iff.1 h)]
    | false => rw [if_neg (fun hm => by rw [inB_iff.2 hm] at h; cases h)]
  | b :: l, k, j + 1 => by
    simp only [frzN, List.getD_cons_succ]
    rw [frzN_get l (k + 1) j, show k + 1 + j = k + (j + 1) by omega]
theorem Weak.frz {st : St} (vids : List Nat) : Weak st ⟨A.views st.H vids st.env, frzN st.H vids st.H 0, st.k⟩ := by
  intro cx m S a w hs
  have hf := hs.hold.freeze (vids := vids) (H' := putB st.H (vids.map fun id => (id, (st.H.getD id .unborn).frz))) fun k => by
    rw [getD_putB, lastB_frz]
    by_cases hk : k ∈ vids <;> simp [hk]
  have hle := fzm_le hs.hold vids
  refine ⟨fzm m st.H vids, SV' m S vids, ⟨⟨hf.os, hf.tape, hf.output, hf.size, hf.old, hf.s0, hf.s, hf.pl, hf.apart, fun j => ?_, hf.le⟩, Reps.mono hle (fun _ h => h) (Keeps.refl _ w) _ _ (Reps.view hs.hold _ _ hs.env), hs.df, hs.pre⟩⟩
  have hj := hf.ok j
  rw [getD_putB, lastB_frz] at hj
  simp only [] at hj ⊢
  rw [frzN_get, Nat.zero_add]
  by_cases hk : j ∈ vids
  · rw [if_pos hk] at hj ⊢; exact hj
  · rw [if_neg hk] at hj ⊢
    simp only [Option.getD_none] at hj
    cases hb : st.H.getD j .unborn with
    | box xs =>
      rw [hb] at hj
      obtain ⟨b, cells, T, k1, k2, k3, k4, k5⟩ := hj
      have hok := hs.hold.ok j
      rw [hb] at hok
      obtain ⟨b0, cells0, T0, j1, j2, j3, _⟩ := hok
      have hi : inB vids j = false := by
        cases hi : inB vids j with
        | false => rfl
        | true => exact absurd (inB_iff.1 hi) hk
      have e1 : m j = some (.box b) := by simpa only [fzm, hi] using k1
      rw [j1] at e1; cases e1
      rw [j2] at k2; cases k2
      exact ⟨b, cells, T, k1, j2, Reps.mono hle (fun _ h => h) (Keeps.refl _ w) _ _ (Reps.view hs.hold _ _ j3), k4, k5⟩
    | unborn => rw [hb] at hj; exact hj
    | gone => rw [hb] at hj; exact hj
    | arr e sz n xs => rw [hb] at hj; exact hj
    | fro e sz n xs => rw [hb] at hj; exact hj

/-- Slot by slot: nothing known, the same under other names, or nil as an empty slice. -/
def wkM (ids : List Nat) : List A → List A → Prop
  | [], [] => True
  | x :: xs, y :: ys => (x = .top ∨ x.ren ids = some y ∨ x.ren ids = some y.nn) ∧ wkM ids xs ys
  | _, _ => False
theorem wkM_reps {ids : List Nat} {m : Mp} {S : Nat → Prop} {w : World} : ∀ {xs ys : List A} {vs : List Value}, wkM ids xs ys → Reps m S w ys vs → Reps (via ids m) S w xs vs
  | [], [], vs, _, h => by simp only [Reps] at h ⊢; exact h
  | x :: xs, y :: ys, vs, hw, h => by
    simp only [Reps] at h ⊢
    obtain ⟨v, r, rfl, h1, h2⟩ := h
    refine ⟨v, r, rfl, ?_, wkM_reps hw.2 h2⟩
    rcases hw.1 with rfl | he | he
    · simp only [Rep]
    · exact (Rep.via x y v he).2 h1
    · exact (Rep.via x y.nn v he).2 (Rep.nn y v h1)
  | [], _ :: _, _, hw, _ => hw.elim
  | _ :: _, [], _, hw, _ => hw.elim
def wkC (ids : List Nat) : Blk → Blk → Prop
  | .box xs, .box ys => wkM ids xs ys
  | b, b' => b.ren ids = some b'
theorem wkC_ok {ids : List Nat} {m : Mp} {S : Nat → Prop} {w : World} {j k : Nat} {b b' : Blk} (hk : ids[j]? = some k) (hw : wkC ids b b') (h : BlkOK m S w k b') : BlkOK (via ids m) S w j b := by
  have gen : b.ren ids = some b' → BlkOK (via ids m) S w j b := fun hr => (BlkOK.via hk hr).2 h
  cases b with
  | box xs =>
    cases b' with
    | box ys =>
      obtain ⟨b, cells, T, h1, h2, h3, h4, h5⟩ := h
      exact ⟨b, cells, T, by simp [K.via, hk, h1], h2, wkM_reps hw h3, h4, h5⟩
    | _ => exact gen hw
  | _ => exact gen hw
def wkCs (ids : List Nat) (H : List Blk) : List Nat → List Blk → Prop
  | [], [] => True
  | i :: is, b :: bs => wkC ids b (H.getD i .unborn) ∧ wkCs ids H is bs
  | _, _ => False
theorem wkCs_spec {ids : List Nat} {H : List Blk} : ∀ {is : List Nat} {bs : List Blk}, wkCs ids H is bs → is.length = bs.length ∧ ∀ j i, is[j]? = some i → wkC ids (bs.getD j .unborn) (H.getD i .unborn)
  | [], [], _ => ⟨rfl, fun j i h => by simp at h⟩
  | i :: is, b :: bs, h => by
    obtain ⟨h1, h2⟩ := wkCs_spec h.2
    refine ⟨by simp [h1], fun j k hj => ?_⟩
    cases j with
    | zero => simp only [List.getElem?_cons_zero, Option.some.injEq] at hj; subst hj; exact h.1
    | succ j => simpa using h2 j k (by simpa using hj)
  | [], _ :: _, h => h.elim
  | _ :: _, [], h => h.elim
theorem Weak.toN {st st' : St} (ids : List Nat) (hk : st'.k = st.k) (hn' : nodupB ids = true) (hl : ids.length = st'.H.length) (hpre : st.k ≤ ids.length ∧ ids.take st.k = List.range st.k)
    (hH' : wkCs ids st.H ids st'.H) (he : wkM ids st'.env st.env) : Weak st st' := by
  have hn := nodupB_spec hn'
  have hH := (wkCs_spec hH').2
  intro cx m S a w hs
  have h := hs.hold
  refine ⟨via ids m, S, ⟨⟨h.os, h.tape, h.output, h.size, h.old, h.s0, h.s, fun id p b hp hb => ?_, fun id id' p p' b hne hp hp' hb => ?_, fun j => ?_, fun id p hp => ?_⟩, wkM_reps he hs.env, hs.df, by rw [hk]; exact hs.pre⟩⟩
  · obtain ⟨k, _, hk⟩ := via_some hp; exact h.pl k p b hk hb
  · obtain ⟨k, h1, hk⟩ := via_some hp
    obtain ⟨k', h1', hk'⟩ := via_some hp'
    refine h.apart k k' p p' b (fun he => hne ?_) hk hk' hb
    subst he
    exact (List.getElem?_inj (List.getElem?_eq_some_iff.1 h1).1 hn).1 (h1.trans h1'.symm)
  · rcases Nat.lt_or_ge j ids.length with hj | hj
    · have hkj : ids[j]? = some ids[j] := List.getElem?_eq_getElem hj
      exact wkC_ok hkj (hH j _ hkj) (h.ok _)
    · rw [getD_none (by rw [← hl]; exact hj)]
      simp only [BlkOK, K.via, List.getElem?_eq_none hj, Option.bind_none]
  · have hid : id < st.k := by
      rcases Nat.lt_or_ge id st.k with h1 | h1
      · exact h1
      · rw [hs.pre id h1] at hp; cases hp
    have hki : ids[id]? = some id := by
      have : (ids.take st.k)[id]? = some id := by rw [hpre.2, List.getElem?_range hid]
      rwa [List.getElem?_take, if_pos hid] at this
    simp only [K.via, hki, Option.bind_some]
    exact h.le id p hp
/-- A block is let go. -/
def isLive : Blk → Bool
  | .arr .. => true
  | .fro .. => true
  | .box _ => true
  | _ => false
theorem Weak.gone {st st' : St} (j : Nat) (hb : isLive (st.H.getD j .unborn) = true) (he : st' = ⟨st.env, st.H.set j .gone, st.k⟩) : Weak st st' := by
  subst he
  intro cx m S a w hs
  have h := hs.hold
  have hj : ∃ p, m j = some p := by
    have hok := h.ok j
    cases hx : st.H.getD j .unborn with
    | unborn => rw [hx] at hb; cases hb
    | gone => rw [hx] at hb; cases hb
    | box xs => rw [hx] at hok; obtain ⟨b, cells, T, h1, _⟩ := hok; exact ⟨_, h1⟩
    | arr e sz n xs => rw [hx] at hok; obtain ⟨v, h1, _⟩ := hok; exact ⟨_, h1⟩
    | fro e sz n xs => rw [hx] at hok; obtain ⟨v, h1, _⟩ := hok; exact ⟨_, h1⟩
  have hlen : j < st.H.length := by
    rcases Nat.lt_or_ge j st.H.length with h1 | h1
    · exact h1
    · rw [getD_none h1] at hb; cases hb
  have hLe : Le m (updM m j .gone) := fun k q hq => by
    by_cases e1 : k = j
    · subst e1; right; simp [updM]
    · left; simpa only [updM, e1, if_false] using hq
  have hne : ∀ i, i ≠ j → updM m j .gone i = m i := fun i hi => by simp only [updM, hi, if_false]
  have hself : updM m j .gone j = some .gone := by simp [updM]
  have blkM : ∀ {id p b}, updM m j .gone id = some p → p.blk = some b → m id = some p := fun {id p b} hp hb => by
    by_cases e1 : id = j
    · subst e1; rw [hself] at hp; cases hp; cases hb
    · rw [hne id e1] at hp; exact hp
  refine ⟨_, S, ⟨⟨h.os, h.tape, h.output, h.size, h.old, h.s0, h.s, fun id p b hp hb => h.pl id p b (blkM hp hb) hb, fun id id' p p' b hd hp hp' hb hb' => h.apart id id' p p' b hd (blkM hp hb) (blkM hp' hb') hb hb', fun i => ?_, h.le.trans hLe⟩,
    Reps.mono hLe (fun _ h => h) (Keeps.refl S w) _ _ hs.env, hs.df, hs.pre⟩⟩
  by_cases hi : i = j
  · subst hi
    rw [show (st.H.set i .gone).getD i .unborn = .gone by simp [List.getD_eq_getElem?_getD, List.getElem?_set, hlen]]
    exact hself
  · rw [show (st.H.set j .gone).getD i .unborn = st.H.getD i .unborn by simp [List.getD_eq_getElem?_getD, List.getElem?_set, Ne.symm hi]]
    exact (h.ok i).mono (hne i hi) hLe (fun _ h => h) (Keeps.refl S w) fun p g _ _ => ⟨rfl, fun h => h⟩
/-- A row takes another number. -/
def wkV (c a : Nat) : List A → List A → Prop
  | [], [] => True
  | x :: xs, y :: ys => (x = y ∨ (x = .own c ∧ y = .own a)) ∧ wkV c a xs ys
  | _, _ => False
def mvL (a c : Nat) : Nat → List Blk → List Blk → Prop
  | j, x :: xs, y :: ys => (j = a ∨ x = y ∨ ∃ p q, x = .box p ∧ y = .box q ∧ wkV c a p q) ∧ mvL a c (j + 1) xs ys
  | _, [_], [] => True
  | _, [], [] => True
  | _, _, _ => False
theorem mvL_spec {a c : Nat} : ∀ {xs ys : List Blk} {j : Nat}, mvL a c j xs ys → ∀ i, i < ys.length → j + i = a ∨ xs.getD i .unborn = ys.getD i .unborn ∨ ∃ p q, xs.getD i .unborn = .box p ∧ ys.getD i .unborn = .box q ∧ wkV c a p q
  | _, [], _, _, i, hi => by simp at hi
  | [], y :: ys, _, h, _, _ => by simp [mvL] at h
  | x :: xs, y :: ys, j, h, i, hi => by
    simp only [mvL] at h
    cases i with
    | zero => simpa using h.1
    | succ i =>
      have := mvL_spec h.2 i (by simpa using hi)
      rw [show j + (i + 1) = j + 1 + i by omega]
      simpa using this
theorem mvL_len {a c : Nat} : ∀ {xs ys : List Blk} {j : Nat}, mvL a c j xs ys → xs.length ≤ ys.length + 1
  | [], [], _, _ => by simp
  | [_], [], _, _ => by simp
  | _ :: _ :: _, [], _, h => by simp [mvL] at h
  | [], _ :: _, _, h => by simp [mvL] at h
  | x :: xs, y :: ys, j, h => by
    simp only [mvL] at h
    have := mvL_len h.2
    simp; omega
theorem Weak.move {st st' : St} (a c : Nat) {e sz n : Nat} {xs : List D} (ha : st.H.getD a .unborn = .arr e sz n xs) (hc : c = st.H.length) (hne : a ≠ c) (hk : st'.k = st.k) (he : wkV c a st'.env st.env)
    (hga : st'.H.getD a .unborn = .gone) (hgc : st'.H.getD c .unborn = .arr e sz n xs) (ho : mvL a c 0 st'.H st.H) : Weak st st' := by
  intro cx m S act w hs
  have h := hs.hold
  have hcu : st.H.getD c .unborn = .unborn := getD_none (by omega)
  have hok := h.ok a
  rw [ha] at hok
  obtain ⟨v, h1, h2, h3⟩ := hok
  have hmc : m c = none := by have := h.ok c; rw [hcu] at this; exact this
  let m' : Mp := fun k => if k = c then some (.arr v) else if k = a then some .gone else m k
  have mc : m' c = some (.arr v) := by simp [m']
  have ma : m' a = some .gone := by simp [m', hne]
  have mo : ∀ i, i ≠ a → i ≠ c → m' i = m i := fun i h1 h2 => by simp [m', h1, h2]
  have hLe : Le m m' := fun k q hq => by
    by_cases e1 : k = c
    · subst e1; rw [hmc] at hq; cases hq
    · by_cases e2 : k = a
      · subst e2; exact .inr ma
      · left; rw [mo k e2 e1]; exact hq
  have back : ∀ {id p b}, m' id = some p → p.blk = some b → (id = c ∧ p = .arr v ∧ m a = some p) ∨ (id ≠ c ∧ id ≠ a ∧ m id = some p) := fun {id p b} hp hb => by
    by_cases e1 : id = c
    · subst e1; rw [mc] at hp; cases hp; exact .inl ⟨rfl, rfl, h1⟩
    · by_cases e2 : id = a
      · subst e2; rw [ma] at hp; cases hp; cases hb
      · rw [mo id e2 e1] at hp; exact .inr ⟨e1, e2, hp⟩
  have hv1 : ∀ {xs ys : List A} {vs : List Value}, wkV c a xs ys → Reps m S w ys vs → Reps m' S w xs vs := by
    intro xs
    induction xs with
    | nil =>
      intro ys vs hw hr
      cases ys with
      | nil => simp only [Reps] at hr ⊢; exact hr
      | cons y ys => exact hw.elim
    | cons x xs ih =>
      intro ys vs hw hr
      cases ys with
      | nil => exact hw.elim
      | cons y ys =>
        simp only [Reps] at hr ⊢
        obtain ⟨u, r, rfl, k1, k2⟩ := hr
        refine ⟨u, r, rfl, ?_, ih hw.2 k2⟩
        rcases hw.1 with rfl | ⟨rfl, rfl⟩
        · exact Rep.mono hLe (fun _ h => h) (Keeps.refl S w) _ _ k1
        · simp only [Rep, h1] at k1
          simp only [Rep, mc]; exact k1
  refine ⟨m', S, ⟨⟨h.os, h.tape, h.output, h.size, h.old, h.s0, h.s, fun id p b hp hb => ?_, fun id id' p p' b hd hp hp' hb hb' => ?_, fun i => ?_, h.le.trans hLe⟩, hv1 he hs.env, hs.df, by rw [hk]; exact hs.pre⟩⟩
  · rcases back hp hb with ⟨_, _, q⟩ | ⟨_, _, q⟩
    · exact h.pl a p b q hb
    · exact h.pl id p b q hb
  · rcases back hp hb with ⟨e1, e2, q⟩ | ⟨e1, e2, q⟩ <;> rcases back hp' hb' with ⟨f1, f2, q'⟩ | ⟨f1, f2, q'⟩
    · exact hd (e1.trans f1.symm)
    · exact h.apart a id' p p' b (Ne.symm f2) q q' hb hb'
    · exact h.apart id a p p' b e2 q q' hb hb'
    · exact h.apart id id' p p' b hd q q' hb hb'
  · by_cases e1 : i = c
    · subst e1
      rw [hgc]
      exact ⟨v, mc, h2, h3⟩
    · by_cases e2 : i = a
      · subst e2; rw [hga]; exact ma
      · have hok := h.ok i
        by_cases hl : i < st.H.length
        · rcases mvL_spec ho i hl with q | q | ⟨p, q, q1, q2, q3⟩
          · exact absurd (by omega) e2
          · rw [q]
            exact hok.mono (mo i e2 e1) hLe (fun _ h => h) (Keeps.refl S w) fun p g _ _ => ⟨rfl, fun h => h⟩
          · rw [q2] at hok
            obtain ⟨b, cells, T, k1, k2, k3, k4, k5⟩ := hok
            rw [q1]
            exact ⟨b, cells, T, by rw [mo i e2 e1]; exact k1, k2, hv1 q3 k3, k4, k5⟩
        · rw [getD_none (by omega)] at hok
          have hlen := mvL_len ho
          rw [getD_none (by omega)]
          exact (mo i e2 e1).trans hok
section
variable {P : Program} {o : Oper} {st : St}
/-- A row is frozen as it is made. -/
theorem OpRun.frzNew {R : List Loc} {val : A} {bl : List (Nat × Blk)} (vids : List Nat) (h : OpRun P o st R val bl) (hv : vids.all (fun i => (lastB bl i).isSome) = true) :
    OpRun P o st R (val.view (putB [] bl) vids) (bl ++ vids.map fun id => (id, ((putB [] bl).getD id .unborn).frz)) := by
  intro st' hl hlen cx m S a w hs
  refine runs_mono (h st' hl hlen cx m S a w hs) fun v w' ⟨m', S', k1, k2, k3, k4, k5⟩ => ?_
  have hs0 : ∀ id ∈ vids, (putB st'.H bl).getD id .unborn = (putB [] bl).getD id .unborn := fun id hid => by
    have := List.all_eq_true.1 hv id hid
    obtain ⟨b, hb⟩ := Option.isSome_iff_exists.1 this
    rw [getD_putB, getD_putB, hb]; rfl
  have hF := k4.freeze (vids := vids) (H' := putB st'.H (bl ++ vids.map fun id => (id, ((putB [] bl).getD id .unborn).frz))) fun k => by
    rw [getD_putB, lastB_append]
    have e : lastB (vids.map fun id => (id, ((putB [] bl).getD id .unborn).frz)) k = if k ∈ vids then some ((putB [] bl).getD k .unborn).frz else none := lastB_frz
    rw [e]
    by_cases hk : k ∈ vids
    · rw [if_pos hk, if_pos hk, Option.some_or, Option.getD_some, hs0 k hk]
    · rw [if_neg hk, if_neg hk, Option.none_or, getD_putB]
  have hle := fzm_le k4 vids
  refine ⟨_, _, k1.trans hle, fun b hb => .inl (k2 b hb), k3, hF, ?_⟩
  have := Rep.view (vids := vids) k4 val v k5
  rw [view_congr hs0] at this
  exact Rep.mono hle (fun _ h => h) (Keeps.refl _ w') _ _ this
theorem op_nilCheckLoc {x : Operand} {id off : Nat} {xs : List A} (ho : o.op = .nilCheck x) (hx : opA st x = .loc id off) (hb : st.H.getD id .unborn = .box xs) : OpRun P o st (locOf x ++ [.blk id]) (.loc id off) [] := by
  refine .pure fun st' hag cx m S a w hs => ?_
  have hr := op_rep hx (R := locOf x ++ [.blk id]) (fun l h => by simp [h]) hag hs
  have hb' : st'.H.getD id .unborn = .box xs := (blk1 (by simp) hag).trans hb
  have hok := hs.hold.ok id
  rw [hb'] at hok
  obtain ⟨b, cells, T, h1, _⟩ := hok
  have hr2 := hr
  simp only [Rep, h1] at hr2
  refine ⟨_, ?_, hr⟩
  rw [hr2]
  simp [execOp, ho, hr2]
/-- A part of a frozen slice. -/
theorem op_cut {α : Type} {t e sz : Nat} {x : Operand} {lo hi : Option Operand} {l y : List α} {enc : α → List D} {a b : Nat} (ho : o.op = .slice t x lo hi none) (he : sliceElem P t = some (e, sz)) (hx : opA st x = .d (.sl l.length (flatD enc l))) (hlen : ∀ a, (enc a).length = sz)
    (hlo : boundA st 0 lo a) (hhi : boundA st l.length hi b) (h1 : a ≤ b) (h2 : b ≤ l.length) (hy : y = (l.drop a).take (b - a)) : OpRun P o st (locsOf (x :: (lo.toList ++ hi.toList))) (.d (.sl y.length (flatD enc y))) [] := by
  refine .pure fun st' hag cx m S act w hs => ?_
  have hr := op_rep hx (R := locsOf (x :: (lo.toList ++ hi.toList))) (fun l h => by simp [locsOf, h]) hag hs
  simp only [Rep] at hr
  unfold RepD at hr
  obtain ⟨p, cap, hv, k2, k3, k4, k5⟩ := hr
  have hlo' : boundV act 0 lo a := by
    cases lo with
    | none => exact hlo
    | some z => obtain ⟨k, v, q1, rfl⟩ := hlo; exact ⟨k, op_lit q1 (R := locsOf (x :: ((some z).toList ++ hi.toList))) (fun l h => by simp [locsOf, h]) hag hs⟩
  have hhi' : boundV act l.length hi b := by
    cases hi with
    | none => exact hhi
    | some z =>
      obtain ⟨k, v, q1, rfl⟩ := hhi
      refine ⟨k, op_lit q1 (R := locsOf (x :: (lo.toList ++ (some z).toList))) (fun l h => ?_) hag hs⟩
      exact locs_mem (xs := x :: (lo.toList ++ [z])) (by simp) l h
  refine ⟨_, run_slice ho he hv hlo' hhi' h1 (by omega), ?_⟩
  have hyl : y.length = b - a := by rw [hy, List.length_take, List.length_drop]; omega
  have hcut : flatD enc y = ((flatD enc l).drop (a * sz)).take ((b - a) * sz) := by rw [hy, flat_cut hlen]
  simp only [Rep]
  unfold RepD
  refine ⟨_, cap - a, by rw [hyl], by omega, by omega, fun hn => ?_, ?_⟩
  · split at hn
    · have := k4 hn; omega
    · cases p with
      | none => have := k4 rfl; omega
      | some q => cases hn
  · rw [hcut]
    by_cases hc : cap = a
    · rw [if_pos hc, show b - a = 0 by omega, Nat.zero_mul, List.take_zero]
      simp only [RepDs]
    · rw [if_neg hc]
      cases p with
      | none => have := k4 rfl; omega
      | some q => exact RepDs.take (RepDs.drop k5 (a * sz)) _
end
section
variable {P : Program} {t : TypeId} {x y : Operand} {w : World} {a b : List UInt8}
theorem toList_toS (a : List UInt8) : (toS a).toList = a := by rw [ByteArray.toList_eq]; rfl
theorem hb_sadd {z : List UInt8} (he : z = a ++ b) (hl : a.length + b.length ≤ 1000000000) : (do eqGuard .add t x y (.string (toS a)) (.string (toS b)); binOp .add t (.string (toS a)) (.string (toS b)) : Sem Value).run P w = .ok (.string (toS z)) w := by
  subst he
  have h : ¬ (9223372036854775807 < ((toS a).size : Int) + ((toS b).size : Int)) := by
    show ¬ (9223372036854775807 < (a.length : Int) + (b.length : Int))
    omega
  simp [eqGuard, binOp, Op.stringOp, toList_toS, h, toS_app]
end
end Go.Proofs.Ytdpmojhejidhiaa.K

namespace Go.Proofs.Ytdpmojhejidhiaa.K
open Go.RowKit Go.Lib

/-- Unknown slots. -/
def tp : Nat → List A → List A
  | 0, l => l
  | n + 1, l => .top :: tp n l
/-- Empty slots. -/
def tu : Nat → List A → List A
  | 0, l => l
  | n + 1, l => .tup [] :: tu n l
section
variable {P : Program} {ops : Array Oper} {K : St → List Ef → Prop} {o : Oper} {l : List Oper} {st : St} {F : List Ef}
theorem Wy (val : A) (bl : List (Nat × Blk)) {R : List Loc} (hop : OpRun P o st R val bl) (h : Walk P ops K l (st.put o.dst val bl) (F ++ [⟨o.dst, val, bl, gLoc ops o ++ R⟩])) (hg : gYes ops st o = true := by kernel_rfl) : Walk P ops K (o :: l) st F := Walk.yes hg hop h
theorem Wn (h : Walk P ops K l (st.put o.dst (.tup []) []) (F ++ [⟨o.dst, .tup [], [], gLoc ops o⟩])) (hg : gNo ops st o = true := by kernel_rfl) : Walk P ops K (o :: l) st F := Walk.no hg h
end
section
variable {P : Program} {K : Exit → St → Prop} {c : Code} {st : St} {id : Nat} {l : List Oper}
theorem Adr (h : Walk P l.toArray (fun st' F => chkF l.toArray F = true ∧ K .normal st') l st []) (hm : P.follows .mixedOrders = true := by kernel_rfl) : AWP P K (.region id l.toArray true) st := AWP.drawn hm h
theorem Ato (st' : St) (h : AWP P K c st') (e : st = st' := by kernel_rfl) : AWP P K c st := AWP.to_ e h
theorem Wdr {ops : Array Oper} {F : List Ef} (h : K .normal st) (hc : chkF ops F = true := by kernel_rfl) : Walk P ops (fun st' F => chkF ops F = true ∧ K .normal st') [] st F := ⟨hc, h⟩
end
/-! ### what is dead is forgotten -/
def maskE (ks nb : Nat) : Nat → List A → List A
  | _, [] => []
  | i, x :: l => (match ks.testBit i with | true => (match nb.testBit i with | true => x.nn | false => x) | false => .top) :: maskE ks nb (i + 1) l
def maskH (kb : Nat) : Nat → List Blk → List Blk
  | _, [] => []
  | i, b :: l => (match kb.testBit i, isLive b with | false, true => .gone | _, _ => b) :: maskH kb (i + 1) l
theorem maskE_reps {m : Mp} {S : Nat → Prop} {w : World} {ks nb : Nat} : ∀ {xs : List A} {i : Nat} {vs : List Value}, Reps m S w xs vs → Reps m S w (maskE ks nb i xs) vs
  | [], _, vs, h => by simpa only [maskE, Reps] using h
  | x :: xs, i, vs, h => by
    simp only [Reps] at h
    obtain ⟨v, r, rfl, h1, h2⟩ := h
    simp only [maskE, Reps]
    refine ⟨v, r, rfl, ?_, maskE_reps h2⟩
    split
    · split
      · exact Rep.nn _ _ h1
      · exact h1
    · simp only [Rep]
theorem maskH_get {kb : Nat} : ∀ (l : List Blk) (i j : Nat), (maskH kb i l).getD j .unborn = (match kb.testBit (i + j), isLive (l.getD j .unborn) with | false, true => .gone | _, _ => l.getD j .unborn)
  | [], i, j => by simp only [maskH, List.getD_nil, isLive]; split <;> simp_all
  | b :: l, i, 0 => by simp only [maskH, List.getD_cons_zero, Nat.add_zero]
  | b :: l, i, j + 1 => by
    simp only [maskH, List.getD_cons_succ]
    rw [maskH_get l (i + 1) j, show i + 1 + j = i + (j + 1) by omega]
theorem Weak.mask {st : St} (ks kb : Nat) : Weak st ⟨maskE ks 0 0 st.env, maskH kb 0 st.H, st.k⟩ := by
  intro cx m S a w hs
  have h := hs.hold
  let T : Nat → Bool := fun i => !kb.testBit i && isLive (st.H.getD i .unborn)
  let m' : Mp := fun i => if T i then some .gone else m i
  have hT : ∀ i, T i = true → ∃ p, m i = some p := fun i hi => by
    have hok := h.ok i
    have hb : isLive (st.H.getD i .unborn) = true := by simp only [T, Bool.and_eq_true] at hi; exact hi.2
    cases hx : st.H.getD i .unborn with
    | unborn => rw [hx] at hb; cases hb
    | gone => rw [hx] at hb; cases hb
    | box xs => rw [hx] at hok; obtain ⟨b, cells, T, h1, _⟩ := hok; exact ⟨_, h1⟩
    | arr e sz n xs => rw [hx] at hok; obtain ⟨v, h1, _⟩ := hok; exact ⟨_, h1⟩
    | fro e sz n xs => rw [hx] at hok; obtain ⟨v, h1, _⟩ := hok; exact ⟨_, h1⟩
  have hLe : Le m m' := fun k q hq => by
    by_cases e1 : T k = true
    · right; simp [m', e1]
    · left; simpa [m', e1] using hq
  have blkM : ∀ {id p b}, m' id = some p → p.blk = some b → m id = some p := fun {id p b} hp hb => by
    by_cases e1 : T id = true
    · simp only [m', e1, if_true, Option.some.injEq] at hp; subst hp; cases hb
    · simpa [m', e1] using hp
  refine ⟨m', S, ⟨⟨h.os, h.tape, h.output, h.size, h.old, h.s0, h.s, fun id p b hp hb => h.pl id p b (blkM hp hb) hb, fun id id' p p' b hd hp hp' hb hb' => h.apart id id' p p' b hd (blkM hp hb) (blkM hp' hb') hb hb', fun i => ?_, h.le.trans hLe⟩,
    maskE_reps (Reps.mono hLe (fun _ h => h) (Keeps.refl S w) _ _ hs.env), hs.df, hs.pre⟩⟩
  rw [maskH_get, Nat.zero_add]
  by_cases e1 : T i = true
  · have e2 := e1
    simp only [T, Bool.and_eq_true, Bool.not_eq_true'] at e2
    rw [e2.1, e2.2]
    show m' i = some .gone
    simp [m', e1]
  · have : (match kb.testBit i, isLive (st.H.getD i .unborn) with | false, true => Blk.gone | _, _ => st.H.getD i .unborn) = st.H.getD i .unborn := by
      split
      · rename_i q1 q2; exact absurd (show (!kb.testBit i && isLive (st.H.getD i .unborn)) = true by rw [q1, q2]; rfl) e1
      · rfl
    rw [this]
    exact (h.ok i).mono (by simp [m', e1]) hLe (fun _ h => h) (Keeps.refl S w) fun p g _ _ => ⟨rfl, fun h => h⟩
section
variable {P : Program} {K : Exit → St → Prop} {c : Code} {st : St}
/-- Dead slots and blocks are forgotten; the state is printed. -/
theorem Amk (ks kb : Nat) (st' : St) (h : AWP P K c st') (e : (⟨maskE ks 0 0 st.env, maskH kb 0 st.H, st.k⟩ : St) = st' := by kernel_rfl) : AWP P K c st := AWP.weak (Weak.mask ks kb) (AWP.to_ e h)
theorem Afz (vids : List Nat) (st' : St) (h : AWP P K c st') (e : (⟨A.views st.H vids st.env, frzN st.H vids st.H 0, st.k⟩ : St) = st' := by kernel_rfl) : AWP P K c st := AWP.weak (Weak.frz vids) (AWP.to_ e h)
end
/-- A state comes to a head: slots outside ks are forgotten, those in nb read nil as an empty slice; block j there is block ids[j] here. -/
def pickH (nb : Nat) (H : List Blk) : List Nat → List Blk
  | [] => []
  | i :: is => (match nb.testBit i, H.getD i .unborn with | true, .box xs => .box (A.nns xs) | _, b => b) :: pickH nb H is
theorem wkM_mask {ids : List Nat} {ks nb : Nat} : ∀ {xs ys : List A} {i : Nat}, A.rens ids xs = some (maskE ks nb i ys) → wkM ids xs ys
  | [], [], _, _ => trivial
  | [], y :: ys, i, h => by simp [A.rens, maskE] at h
  | x :: xs, [], i, h => by
    simp only [A.rens, maskE] at h
    split at h <;> cases h
  | x :: xs, y :: ys, i, h => by
    simp only [A.rens, maskE] at h
    split at h
    · rename_i p q h1 h2
      simp only [Option.some.injEq, List.cons.injEq] at h
      refine ⟨?_, wkM_mask (h2.trans (by rw [h.2]))⟩
      split at h
      · split at h
        · exact .inr (.inr (by rw [h1, h.1]))
        · exact .inr (.inl (by rw [h1, h.1]))
      · left
        have e := h1.trans (by rw [h.1])
        cases x with
        | top => rfl
        | d x => simp [A.ren] at e
        | agg xs => simp only [A.ren] at e; split at e <;> cases e
        | tup xs => simp only [A.ren] at e; split at e <;> cases e
        | loc a b => simp only [A.ren] at e; split at e <;> cases e
        | own a => simp only [A.ren] at e; split at e <;> cases e
        | sub a b c => simp only [A.ren] at e; split at e <;> cases e
        | clo f a b => simp only [A.ren] at e; split at e <;> cases e
        | ab p => simp [A.ren] at e
    · cases h
theorem wkM_rens {ids : List Nat} {nn : Bool} : ∀ {xs ys : List A}, A.rens ids xs = some (match nn with | true => A.nns ys | false => ys) → wkM ids xs ys
  | [], [], _ => trivial
  | [], y :: ys, h => by cases nn <;> simp [A.rens, A.nns] at h
  | x :: xs, [], h => by
    simp only [A.rens] at h
    split at h <;> cases nn <;> simp [A.nns] at h
  | x :: xs, y :: ys, h => by
    simp only [A.rens] at h
    split at h
    · rename_i p q h1 h2
      cases nn with
      | true =>
        simp only [A.nns, Option.some.injEq, List.cons.injEq] at h
        exact ⟨.inr (.inr (by rw [h1, h.1])), wkM_rens (nn := true) (by rw [h2]; simp [h.2])⟩
      | false =>
        simp only [Option.some.injEq, List.cons.injEq] at h
        exact ⟨.inr (.inl (by rw [h1, h.1])), wkM_rens (nn := false) (by rw [h2]; simp [h.2])⟩
    · cases h
theorem wkCs_pick {ids : List Nat} {nb : Nat} {H : List Blk} : ∀ {is : List Nat} {bs : List Blk}, renBs ids bs = some (pickH nb H is) → wkCs ids H is bs
  | [], [], _ => trivial
  | [], b :: bs, h => by
    simp only [renBs, pickH] at h
    split at h <;> cases h
  | i :: is, [], h => by simp [renBs, pickH] at h
  | i :: is, b :: bs, h => by
    simp only [renBs, pickH] at h
    split at h
    · rename_i p q h1 h2
      simp only [Option.some.injEq, List.cons.injEq] at h
      refine ⟨?_, wkCs_pick (h2.trans (by rw [h.2]))⟩
      split at h
      · rename_i xs q1 q2
        rw [q2]
        have e := h1.trans (by rw [h.1])
        cases b with
        | box ys =>
          simp only [Blk.ren] at e
          split at e
          · rename_i zs hz
            simp only [Option.some.injEq, Blk.box.injEq] at e
            exact wkM_rens (nn := true) (by rw [hz, e])
          · cases e
        | _ => cases e
      · have e := h1.trans (by rw [h.1])
        cases b with
        | box ys =>
          simp only [Blk.ren] at e
          split at e
          · rename_i zs hz
            simp only [Option.some.injEq] at e
            rw [← e]
            exact wkM_rens (nn := false) (by rw [hz])
          · cases e
        | unborn => exact e
        | gone => exact e
        | arr e' sz n xs => exact e
        | fro e' sz n xs => exact e
    · cases h
theorem Weak.toK {st st' : St} (ks nb hb : Nat) (ids : List Nat) (h1 : st'.k = st.k := by rfl) (h2 : nodupB ids = true := by kernel_rfl) (h3 : ids.length = st'.H.length := by rfl) (h4 : Nat.ble st.k ids.length = true := by rfl) (h5 : ids.take st.k = List.range st.k := by rfl)
    (h6 : A.rens ids st'.env = some (maskE ks nb 0 st.env) := by kernel_rfl) (h7 : renBs ids st'.H = some (pickH hb st.H ids) := by kernel_rfl) : Weak st st' :=
  Weak.toN ids h1 h2 h3 ⟨Nat.le_of_ble_eq_true h4, h5⟩ (wkCs_pick h7) (wkM_mask h6)
/-! ### operations, computed -/
def loadOf (P : Program) (H : List Blk) (t : TypeId) (y : A) : Option A := match cellsAt H y with | some (xs, off) => loadA P t xs off | none => none
def faddrOf (P : Program) (H : List Blk) (t : TypeId) (f : Nat) (y : A) : Option A := match cellsAt H y, fieldOff P t f with | some _, some k => some (addA k y) | _, _ => none
def extOf (i : Nat) : A → Option A
  | .tup xs => xs[i]?
  | _ => none
def storeOf (P : Program) (H : List Blk) (t : TypeId) (v : A) : A → Option (Nat × Blk)
  | .loc id off => match cellsOf v, sizeT P t, H.getD id .unborn with
    | some ys, some n, .box xs => match Nat.beq n ys.length, Nat.ble (off + ys.length) xs.length with | true, true => some (id, .box (putC xs off ys)) | _, _ => none
    | _, _, _ => none
  | _ => none
def buildOf (P : Program) (t : TypeId) (parts : List (Nat × A)) : Option A := match P.underlying t with
  | some (.struct fs) => match placesOf P fs.toList, zeroA P t with
    | some pl, some zs => match fillA pl zs parts with | some ys => some (.agg ys) | none => none
    | _, _ => none
  | _ => none
def lenOf (P : Program) (H : List Blk) (t : TypeId) (y : A) : Option Int := match P.underlying t with
  | some .string => match y with | .d (.lit (.string s)) => some (s.size : Int) | _ => none
  | some (.slice _) => match sliceAt H y with | some (_, _, n) => some (n : Int) | none => none
  | _ => none
section
variable {P : Program} {o : Oper} {st : St}
theorem Omv {x : Operand} {val : A} (ho : mvOf o.op = some x) (h : opA st x = val := by kernel_rfl) : OpRun P o st (locOf x) val [] := (op_move ho).cast h
theorem OpT {c x y : Operand} {val : A} (ho : o.op = .pick c x y) (hc : opA st c = .d (.lit (.bool true)) := by kernel_rfl) (h : opA st x = val := by kernel_rfl) : OpRun P o st (locsOf [c, x]) val [] := (op_pickT ho hc).cast h
theorem OpF {c x y : Operand} {val : A} (ho : o.op = .pick c x y) (hc : opA st c = .d (.lit (.bool false)) := by kernel_rfl) (h : opA st y = val := by kernel_rfl) : OpRun P o st (locsOf [c, y]) val [] := (op_pickF ho hc).cast h
theorem Oex {x : Operand} {i : Nat} {val : A} (ho : o.op = .extract x i) (h : extOf i (opA st x) = some val := by kernel_rfl) : OpRun P o st (locOf x) val [] := by
  cases hx : opA st x <;> rw [hx] at h <;> simp only [extOf] at h <;> try cases h
  exact op_extract ho hx h
theorem Oal {t id : Nat} {ys : List A} (ho : o.op = .alloc t) (hz : zeroA P t = some ys := by kernel_rfl) (hid : st.H.getD id .unborn = .unborn := by kernel_rfl) : OpRun P o st [.blk id] (.loc id 0) [(id, .box ys)] := op_alloc ho hz hid
theorem Obx {t id : Nat} {x : Operand} {ys : List A} (ho : o.op = .box t x) (hys : cellsOf (opA st x) = some ys := by kernel_rfl) (hid : st.H.getD id .unborn = .unborn := by kernel_rfl) : OpRun P o st (locOf x ++ [.blk id]) (.loc id 0) [(id, .box ys)] := op_box ho rfl hys hid
theorem Old {t : TypeId} {x : Operand} {z : A} (ho : o.op = .load t x) (h : loadOf P st.H t (opA st x) = some z := by kernel_rfl) : OpRun P o st (locOf x ++ locA (opA st x)) z [] := by
  unfold loadOf at h
  split at h
  · exact op_load ho rfl ‹_› h
  · cases h
theorem Ofa {t : TypeId} {x : Operand} {f : Nat} {z : A} (ho : o.op = .fieldAddr t x f) (h : faddrOf P st.H t f (opA st x) = some z := by kernel_rfl) : OpRun P o st (locOf x ++ locA (opA st x)) z [] := by
  unfold faddrOf at h
  split at h
  · rename_i h1 h2
    cases h
    exact op_faddr ho rfl (by rw [h1]; rfl) h2
  · cases h
theorem Ost {t : TypeId} {x y : Operand} {id : Nat} {b : Blk} (ho : o.op = .store t x y) (h : storeOf P st.H t (opA st y) (opA st x) = some (id, b) := by kernel_rfl) : OpRun P o st (locsOf [x, y] ++ [.blk id]) (.tup []) [(id, b)] := by
  cases hx : opA st x <;> rw [hx] at h <;> simp only [storeOf] at h <;> try cases h
  split at h
  · rename_i ys n xs h1 h2 h3
    split at h
    · rename_i h4 h5
      cases h
      exact op_store ho hx h3 rfl h1 (by rw [h2, Nat.eq_of_beq_eq_true h4]) (Nat.le_of_ble_eq_true h5)
    · cases h
  · cases h
theorem Obd {t : TypeId} {parts : List (Nat × Operand)} {z : A} (ho : o.op = .build t parts.toArray) (h : buildOf P t (partsA st parts) = some z := by kernel_rfl) : OpRun P o st (partLocs parts) z [] := by
  unfold buildOf at h
  split at h
  · rename_i fs hu
    split at h
    · rename_i pl zs h1 h2
      split at h
      · rename_i ys h3; cases h; exact op_build ho hu h1 h2 h3
      · cases h
    · cases h
  · cases h
theorem Oln {t : TypeId} {x : Operand} {v : Int} (ho : o.op = .call ⟨.builtin .len, #[x], #[t]⟩) (h : lenOf P st.H t (opA st x) = some v := by kernel_rfl) : OpRun P o st (locOf x ++ locA (opA st x)) (.d (.lit (.int .i64 v))) [] := by
  unfold lenOf at h
  split at h
  · rename_i hu
    split at h
    · rename_i s hx
      cases h
      have := op_len_str (st := st) ho hu hx
      rw [hx]
      simpa [locA] using this
    · cases h
  · rename_i e hu
    split at h
    · rename_i ds off n hs
      cases h
      exact op_len ho hu rfl hs
    · cases h
  · cases h
theorem Obn {op : BinOp} {t u : TypeId} {x y : Operand} {a1 a2 v : Value} (ho : o.op = .binOp op t x y u) (hrun : ∀ w, (do eqGuard op t x y a1 a2; binOp op t a1 a2 : Sem Value).run P w = .ok v w)
    (hx : opA st x = .d (.lit a1) := by kernel_rfl) (hy : opA st y = .d (.lit a2) := by kernel_rfl) (h1 : v.oneCell' = true := by rfl) : OpRun P o st (locsOf [x, y]) (.d (.lit v)) [] := op_bin ho hx hy hrun h1
def callArgs (H : List Blk) (f : FuncId) (vids : List Nat) (args : List A) : A → Option (List A)
  | .clo (.func g) first cap => match Nat.beq g f with | true => some (A.views H vids (first ++ args ++ cap)) | false => none
  | _ => none
/-- Arguments as a contract has them: nil as nil, or as an empty slice. -/
def rawB (rw : Nat) : Nat → List A → List A
  | _, [] => []
  | i, x :: l => (match rw.testBit i with | true => x | false => x.nn) :: rawB rw (i + 1) l
theorem rawB_nnL {rw : Nat} : ∀ {xs : List A} {i : Nat}, nnL (rawB rw i xs) xs
  | [], _ => trivial
  | x :: l, i => ⟨by cases rw.testBit i <;> simp, rawB_nnL⟩
def frzIf (H : List Blk) (vids : List Nat) : Bool → List (Nat × Blk)
  | true => vids.map fun id => (id, (H.getD id .unborn).frz)
  | false => []
def callBl (H : List Blk) (pids nids vids : List Nat) (fz : Bool) (post : List Blk) : Option (List (Nat × Blk)) := match renBs (pids ++ nids) post with
  | some p => some ((pids ++ nids).zip p ++ frzIf H vids fz)
  | none => none
variable {callee : Operand} {args : List Operand} {ats : Array TypeId} {f : FuncId} {xs ys : List A} {pre : List Blk} {res : A} {post : List Blk} {val : A} {bl : List (Nat × Blk)}
theorem mkCall2 (pids nids vids : List Nat) (rw : Nat) (fz : Bool) (con : GCall P f xs pre res post) (hin : ∀ args w, (callFunc f args).run P w = .ok (.enter f args) w) (ho : o.op = .call ⟨.value callee, args.toArray, ats⟩)
    (hy : callArgs st.H f vids (args.map (opA st)) (opA st callee) = some ys) (hargs : A.rens pids xs = some (rawB rw 0 ys)) (hpre : preOK pids st.H pids pre) (hB : callB st.H post pids nids vids = true) (hbl : callBl st.H pids nids vids fz post = some bl) (hres : res.ren (pids ++ nids) = some val) :
    ∃ first cap post', CallOK P st o callee args f first cap xs pre res post pids nids vids val post' ∧ bl = (pids ++ nids).zip post' ++ frzIf st.H vids fz := by
  unfold callBl at hbl
  split at hbl
  · rename_i p hp
    cases hbl
    unfold callArgs at hy
    split at hy
    · rename_i g first cap hc
      split at hy
      · rename_i hg
        cases hy
        have := Nat.eq_of_beq_eq_true hg
        subst this
        exact ⟨first, cap, p, mkCallN pids nids vids con ho hc hin ⟨_, hargs, rawB_nnL⟩ hpre hB hp hres, rfl⟩
      · cases hy
    · cases hy
  · cases hbl
theorem Ocp (pids nids vids : List Nat) (rw : Nat) (con : GCall P f xs pre res post) (hp : res.Plain ∧ ∀ b ∈ post, b.Plain) (hin : ∀ args w, (callFunc f args).run P w = .ok (.enter f args) w) (ho : o.op = .call ⟨.value callee, args.toArray, ats⟩) (hpre : preOK pids st.H pids pre)
    (hargs : (callArgs st.H f vids (args.map (opA st)) (opA st callee)).map (rawB rw 0) = A.rens pids xs := by kernel_rfl) (hs : (callArgs st.H f vids (args.map (opA st)) (opA st callee)).isSome = true := by kernel_rfl)
    (hB : callB st.H post pids nids vids = true := by kernel_rfl) (hbl : callBl st.H pids nids vids false post = some bl := by kernel_rfl) (hres : res.ren (pids ++ nids) = some val := by kernel_rfl) : OpRun P o st (callR callee args pids nids vids) val bl := by
  obtain ⟨ys, hy⟩ := Option.isSome_iff_exists.1 hs
  rw [hy, Option.map_some] at hargs
  obtain ⟨first, cap, post', h, rfl⟩ := mkCall2 pids nids vids rw false con hin ho hy hargs.symm hpre hB hbl hres
  rw [frzIf, List.append_nil]
  exact h.plain hp
theorem Ocf (pids nids vids : List Nat) (rw : Nat) (con : GCall P f xs pre res post) (hin : ∀ args w, (callFunc f args).run P w = .ok (.enter f args) w) (ho : o.op = .call ⟨.value callee, args.toArray, ats⟩) (hpre : preOK pids st.H pids pre)
    (hargs : (callArgs st.H f vids (args.map (opA st)) (opA st callee)).map (rawB rw 0) = A.rens pids xs := by kernel_rfl) (hs : (callArgs st.H f vids (args.map (opA st)) (opA st callee)).isSome = true := by kernel_rfl)
    (hB : callB st.H post pids nids vids = true := by kernel_rfl) (hbl : callBl st.H pids nids vids true post = some bl := by kernel_rfl) (hres : res.ren (pids ++ nids) = some val := by kernel_rfl) : OpRun P o st (callR callee args pids nids vids) val bl := by
  obtain ⟨ys, hy⟩ := Option.isSome_iff_exists.1 hs
  rw [hy, Option.map_some] at hargs
  obtain ⟨first, cap, post', h, rfl⟩ := mkCall2 pids nids vids rw true con hin ho hy hargs.symm hpre hB hbl hres
  exact h.frozen
end
section
variable {P : Program} {rs : List ResultVar} {k : Nat} {res : A} {post : List Blk} {st : St}
def resOne (P : Program) (st : St) (rs : List ResultVar) : Option A := match resList P st rs with | some xs => some (one xs).nn | none => none
def retB (k : Nat) (ids : List Nat) : Bool := nodupB ids && Nat.ble k ids.length && decide (ids.take k = List.range k)
theorem ret_2 (ids : List Nat) (h2 : resOne P st rs = res.ren ids) (h2' : (resOne P st rs).isSome = true) (h3 : renBs ids post = some (pickH 0 st.H ids)) (h5 : retB k ids = true) : RetK P rs k res post .ret st ∧ RetK P rs k res post .normal st := by
  unfold resOne at h2 h2'
  split at h2
  · rename_i xs hx
    simp only [retB, Bool.and_eq_true, decide_eq_true_eq] at h5
    refine ret_any ids xs hx h2.symm ?_ h5.1.1 ⟨Nat.le_of_ble_eq_true h5.1.2, h5.2⟩
    clear h2 h2' hx h5
    have : ∀ (is : List Nat) (bs : List Blk), renBs ids bs = some (pickH 0 st.H is) → preOK ids st.H is bs := by
      intro is
      induction is with
      | nil =>
        intro bs h
        cases bs with
        | nil => trivial
        | cons b bs => simp only [renBs, pickH] at h; split at h <;> cases h
      | cons i is ih =>
        intro bs h
        cases bs with
        | nil => simp [renBs, pickH] at h
        | cons b bs =>
          simp only [renBs, pickH] at h
          split at h
          · rename_i p q h1 h2
            simp only [Option.some.injEq, List.cons.injEq, Nat.zero_testBit] at h
            exact ⟨by rw [h1, h.1], ih bs (by rw [h2, h.2])⟩
          · cases h
    exact this ids post h3
  · rename_i hx; rw [hx] at h2'; cases h2'
theorem ret_i (ids : List Nat) (h2 : resOne P st rs = res.ren ids := by kernel_rfl) (h2' : (resOne P st rs).isSome = true := by kernel_rfl) (h3 : renBs ids post = some (pickH 0 st.H ids) := by kernel_rfl) (h5 : retB k ids = true := by kernel_rfl) : RetK P rs k res post .ret st := (ret_2 ids h2 h2' h3 h5).1
end
section
variable {P : Program} {o : Oper} {st : St}
theorem Ocs {R : List Loc} {val val' : A} {bl : List (Nat × Blk)} (e : val = val') (h : OpRun P o st R val bl) : OpRun P o st R val' bl := h.cast e
theorem Ofz (vids : List Nat) (val : A) (bl : List (Nat × Blk)) {R : List Loc} {val' : A} {bl' : List (Nat × Blk)} (h : OpRun P o st R val bl) (hv : vids.all (fun i => (lastB bl i).isSome) = true := by kernel_rfl) (e1 : val.view (putB [] bl) vids = val' := by kernel_rfl)
    (e2 : (bl ++ vids.map fun id => (id, ((putB [] bl).getD id .unborn).frz)) = bl' := by kernel_rfl) : OpRun P o st R val' bl' := ((OpRun.frzNew vids h hv).cast e1).castB e2
variable {α : Type} {enc : α → List D} {l r a : List α} {i sz k : Nat} {x0 : α} {t : TypeId} {x : Operand}
/-- An element of a frozen slice, a row's: a struct or one cell; or a part of it. -/
theorem Lf {zs : List A} (ho : o.op = .load t x) (hl : ∀ a, (enc a).length = sz) (hx : l[i]? = some x0) (hy : opA st x = .d (.ref (List.drop (i * sz) (flatD enc l))) := by kernel_rfl) (hk : aggSize P t = some zs.length := by kernel_rfl)
    (hz : ((enc x0).take zs.length).map A.d = zs := by kernel_rfl) (hle : Nat.ble zs.length sz = true := by rfl) : OpRun P o st (locOf x ++ locA (.d (.ref (List.drop (i * sz) (flatD enc l))))) (.agg zs) [] :=
  op_load_of zs ho hy rfl hk (flat_ref_le hl hx (Nat.le_of_ble_eq_true hle)) (flat_ref hl hx hz)
theorem Lfk {zs : List A} (k : Nat) (ho : o.op = .load t x) (hl : ∀ a, (enc a).length = sz) (hx : l[i]? = some x0) (hy : opA st x = .d (.ref (List.drop k (List.drop (i * sz) (flatD enc l)))) := by kernel_rfl) (hk : aggSize P t = some zs.length := by kernel_rfl)
    (hz : (((enc x0).drop k).take zs.length).map A.d = zs := by kernel_rfl) (hle : Nat.ble (k + zs.length) sz = true := by rfl) : OpRun P o st (locOf x ++ locA (.d (.ref (List.drop k (List.drop (i * sz) (flatD enc l)))))) (.agg zs) [] :=
  op_load_of zs ho hy rfl hk (flat_refk_le hl hx (Nat.le_of_ble_eq_true hle)) (flat_refk hl hx hz)
theorem Lf1 {z : D} (ho : o.op = .load t x) (hl : ∀ a, (enc a).length = sz) (hx : l[i]? = some x0) (hy : opA st x = .d (.ref (List.drop (i * sz) (flatD enc l))) := by kernel_rfl) (hk : scalarT P t = true := by kernel_rfl)
    (hz : (enc x0)[0]? = some z := by kernel_rfl) : OpRun P o st (locOf x ++ locA (.d (.ref (List.drop (i * sz) (flatD enc l))))) (.d z) [] :=
  op_load_at _ ho hy rfl hk (flat_ref_at hl hx hz)
theorem Lfk1 {z : D} (k : Nat) (ho : o.op = .load t x) (hl : ∀ a, (enc a).length = sz) (hx : l[i]? = some x0) (hy : opA st x = .d (.ref (List.drop k (List.drop (i * sz) (flatD enc l)))) := by kernel_rfl) (hk : scalarT P t = true := by kernel_rfl)
    (hz : (enc x0)[k]? = some z := by kernel_rfl) : OpRun P o st (locOf x ++ locA (.d (.ref (List.drop k (List.drop (i * sz) (flatD enc l)))))) (.d z) [] :=
  op_load_at _ ho hy rfl hk (flat_refk_at hl hx hz)
theorem Lr1 {z : D} (ho : o.op = .load t x) (hl : ∀ a, (enc a).length = sz) (hx : l[i]? = some x0) (hy : cellsAt st.H (opA st x) = some ((flatD enc l).map A.d, i * sz) := by kernel_rfl) (hk : scalarT P t = true := by kernel_rfl)
    (hz : (enc x0)[0]? = some z := by kernel_rfl) : OpRun P o st (locOf x ++ locA (opA st x)) (.d z) [] :=
  op_load_at _ ho rfl hy hk (flat_row_at hl hx hz)
def intOf : A → Option Int
  | .d (.lit (.int _ n)) => some n
  | _ => none
theorem intOf_spec {y : A} {n : Int} (h : intOf y = some n) : ∃ k, y = .d (.lit (.int k n)) := by
  unfold intOf at h
  split at h
  · cases h; exact ⟨_, rfl⟩
  · cases h
/-- An element's address. -/
theorem Oia {ix : Operand} {iv : Int} {val : A} (ho : o.op = .indexAddr t x ix) (hl : ∀ a, (enc a).length = sz) (hi : iv = ((Int.toNat iv : Nat) : Int)) (hg : l[Int.toNat iv]? = some x0)
    (hy : sliceAt st.H (opA st x) = some (flatD enc l, 0, l.length) := by kernel_rfl) (he : (sliceElem P t).map Prod.snd = some sz := by kernel_rfl) (hix : intOf (opA st ix) = some iv := by kernel_rfl) (hv : elemA (Int.toNat iv * sz) (opA st x) = val := by kernel_rfl) :
    OpRun P o st (locsOf [x, ix] ++ locA (opA st x)) val [] := by
  obtain ⟨k, hk⟩ := intOf_spec hix
  cases hs : sliceElem P t with
  | none => rw [hs] at he; cases he
  | some q =>
    obtain ⟨e, s⟩ := q
    rw [hs] at he
    cases he
    exact (op_iaddr ho rfl hy hs hk hi (getlt hg)).cast hv
theorem Oap {e by_ id nid : Nat} {z : Value} {s : Operand} (ho : o.op = .call ⟨.builtin .append, #[s, x], #[t, t]⟩) (E : ElemOK P t e sz by_ z) (hl : ∀ a, (enc a).length = sz) (he : a = l ++ r) (hle : l.length + r.length ≤ 1000000000) (hb : Nat.ble by_ 140000 = true := by rfl)
    (hs0 : opA st s = .own id := by kernel_rfl) (hblk : st.H.getD id .unborn = .arr e sz l.length (flatD enc l) := by kernel_rfl) (hy : sliceAt st.H (opA st x) = some (flatD enc r, 0, r.length) := by kernel_rfl) (hnid : st.H.getD nid .unborn = .unborn := by kernel_rfl) (hne : Nat.beq id nid = false := by rfl) :
    OpRun P o st (locsOf [s, x] ++ (locA (opA st x) ++ [.blk id, .blk nid])) (.own nid) [(id, .gone), (nid, .arr e sz a.length (flatD enc a))] :=
  (op_append ho E hs0 hblk rfl hy (flat_all hl) (flatD_length hl _) (app_bytes hle (Nat.le_of_ble_eq_true hb)) hnid (Nat.ne_of_beq_eq_false hne)).castB (bl_app (by rw [he, List.length_append]) (by rw [he, flatD_append]))
def buildSliceOf (P : Program) (t : TypeId) (len : Nat) (parts : List (Nat × A)) : Option Blk := match sliceElem P t with
  | some (e, sz) => match zeroA P e with
    | some zs => match Nat.beq zs.length sz, Nat.blt 0 sz, Nat.ble (len * sz) 16777216, fillA ((List.range len).map fun i => (i * sz, sz)) (List.replicate (len * sz) .top) parts with
      | true, true, true, some ys => match toDs ys, Nat.beq ys.length (len * sz) with
        | some ds, true => some (.arr e sz len ds)
        | _, _ => none
      | _, _, _, _ => none
    | none => none
  | none => none
theorem Obs {len id : Nat} {parts : List (Nat × Operand)} {b : Blk} (ho : o.op = .buildSlice t len parts.toArray) (h : buildSliceOf P t len (partsA st parts) = some b := by kernel_rfl) (hid : st.H.getD id .unborn = .unborn := by kernel_rfl) :
    OpRun P o st (partLocs parts ++ [.blk id]) (.own id) [(id, b)] := by
  unfold buildSliceOf at h
  split at h
  · rename_i e sz he
    split at h
    · rename_i zs hz
      split at h
      · rename_i ys h1 h2 h3 h4
        split at h
        · rename_i ds h5 h6
          cases h
          exact op_buildSlice ho he hz (Nat.eq_of_beq_eq_true h1) (Nat.le_of_ble_eq_true h2) h3 h4 h5 (Nat.eq_of_beq_eq_true h6) hid
        · cases h
      · cases h
    · cases h
  · cases h
/-- An element of an own row is written, or a part of it. -/
def dsOf (v : A) : Option (List D) := match cellsOf v with
  | some ys => toDs ys
  | none => none
theorem toDs_len : ∀ {ys : List A} {ds : List D}, toDs ys = some ds → ds.length = ys.length
  | [], ds, h => by simp only [toDs, Option.some.injEq] at h; subst h; rfl
  | .d x :: ys, ds, h => by
    simp only [toDs] at h
    split at h
    · cases h; simp [toDs_len ‹_›]
    · cases h
  | .top :: _, _, h => by simp [toDs] at h
  | .agg _ :: _, _, h => by simp [toDs] at h
  | .tup _ :: _, _, h => by simp [toDs] at h
  | .loc _ _ :: _, _, h => by simp [toDs] at h
  | .own _ :: _, _, h => by simp [toDs] at h
  | .sub _ _ _ :: _, _, h => by simp [toDs] at h
  | .clo _ _ _ :: _, _, h => by simp [toDs] at h
  | .ab _ :: _, _, h => by simp [toDs] at h
theorem Osr {e id : Nat} {y : Operand} (k : Nat) (ho : o.op = .store t x y) (hl : ∀ a, (enc a).length = sz) (hx : l[i]? = some x0) (y0 : α) (hp : opA st x = .loc id (i * sz + k) := by kernel_rfl)
    (hb : st.H.getD id .unborn = .arr e sz l.length (flatD enc l) := by kernel_rfl) (hds : (dsOf (opA st y)).isSome = true := by kernel_rfl) (hn : sizeT P t = some ((dsOf (opA st y)).getD []).length := by kernel_rfl) (hle : Nat.ble (k + ((dsOf (opA st y)).getD []).length) sz = true := by kernel_rfl)
    (hy0 : putC (enc x0) k ((dsOf (opA st y)).getD []) = enc y0 := by kernel_rfl) : OpRun P o st (locsOf [x, y] ++ [.blk id]) (.tup []) [(id, .arr e sz (l.set i y0).length (flatD enc (l.set i y0)))] := by
  obtain ⟨cs, hcs⟩ := Option.isSome_iff_exists.1 hds
  rw [hcs] at hn hle hy0
  simp only [Option.getD_some] at hn hle hy0
  unfold dsOf at hcs
  split at hcs
  · rename_i ys hys
    exact (op_storeRow ho hp hb rfl hys hcs (by rw [hn, toDs_len hcs]) (flat_fitk hl (getlt hx) (Nat.le_of_ble_eq_true hle))).castB (bl_one (by simp) (flat_setk hl hx hy0 (Nat.le_of_ble_eq_true hle)))
  · cases hcs
end
/-! ### nil becomes an own row -/
theorem wkN_refl {nid : Nat} : ∀ xs : List A, wkN nid xs xs
  | [] => trivial
  | x :: xs => ⟨.inl rfl, wkN_refl xs⟩
theorem wkN_set {nid : Nat} : ∀ {xs : List A} {t : Nat}, xs[t]? = some (.d .nil) → wkN nid (xs.set t (.own nid)) xs
  | [], t, h => by simp at h
  | x :: xs, 0, h => by
    simp only [List.getElem?_cons_zero, Option.some.injEq] at h
    exact ⟨.inr ⟨rfl, h⟩, wkN_refl xs⟩
  | x :: xs, t + 1, h => ⟨.inl rfl, wkN_set (by simpa using h)⟩
theorem Weak.ownS {st : St} (t e sz : Nat) (h1 : st.env[t]? = some (.d .nil)) : Weak st ⟨st.env.set t (.own st.H.length), st.H ++ [.arr e sz 0 []], st.k⟩ :=
  Weak.own (st' := ⟨st.env.set t (.own st.H.length), st.H ++ [.arr e sz 0 []], st.k⟩) st.H.length e sz (getD_none (Nat.le_refl _)) rfl (wkN_set h1) (by simp [List.getD_eq_getElem?_getD]) fun j hj => .inl (getD_snoc rfl hj)
def boxAt (H : List Blk) (b : Nat) : List A := match H.getD b .unborn with | .box xs => xs | _ => []
theorem Weak.ownB {st : St} (b i e sz : Nat) (h1 : (boxAt st.H b)[i]? = some (.d .nil)) : Weak st ⟨st.env, st.H.set b (.box ((boxAt st.H b).set i (.own st.H.length))) ++ [.arr e sz 0 []], st.k⟩ := by
  have hb : st.H.getD b .unborn = .box (boxAt st.H b) := by
    cases hx : st.H.getD b .unborn with
    | box xs => simp only [boxAt, hx]
    | _ => rw [boxAt, hx] at h1; simp at h1
  have hl : b < st.H.length := by
    rcases Nat.lt_or_ge b st.H.length with h | h
    · exact h
    · rw [getD_none h] at hb; cases hb
  exact Weak.own (st' := ⟨st.env, st.H.set b (.box ((boxAt st.H b).set i (.own st.H.length))) ++ [.arr e sz 0 []], st.k⟩) st.H.length e sz (getD_none (Nat.le_refl _)) rfl (wkN_refl _) (by simp [List.getD_eq_getElem?_getD, List.getElem?_append]) (ownH_set (i := b) rfl hb hl (wkN_set h1))
section
variable {P : Program} {K : Exit → St → Prop} {c : Code} {st : St}
theorem Aow (t e sz : Nat) (st' : St) (h : AWP P K c st') (h1 : st.env[t]? = some (.d .nil) := by kernel_rfl) (e1 : (⟨st.env.set t (.own st.H.length), st.H ++ [.arr e sz 0 []], st.k⟩ : St) = st' := by kernel_rfl) : AWP P K c st := AWP.weak (Weak.ownS t e sz h1) (AWP.to_ e1 h)
theorem Aob (b i e sz : Nat) (st' : St) (h : AWP P K c st') (h1 : (boxAt st.H b)[i]? = some (.d .nil) := by kernel_rfl) (e1 : (⟨st.env, st.H.set b (.box ((boxAt st.H b).set i (.own st.H.length))) ++ [.arr e sz 0 []], st.k⟩ : St) = st' := by kernel_rfl) : AWP P K c st := AWP.weak (Weak.ownB b i e sz h1) (AWP.to_ e1 h)
end
section
variable {P : Program} {t u : TypeId} {k : IntKind} {a b : Int}
theorem hb_max (ty : TypeId) (cs : Array Bool) (w : World) : (builtin .max #[t, u] ty cs #[.int k a, .int k b]).run P w = .ok (.value (.int k (max a b))) w := by
  simp [builtin, Builtin.max_, Builtin.max2]
  omega
theorem hb_min (ty : TypeId) (cs : Array Bool) (w : World) : (builtin .min #[t, u] ty cs #[.int k a, .int k b]).run P w = .ok (.value (.int k (min a b))) w := by
  simp [builtin, Builtin.min_, Builtin.min2]
  omega
end
end Go.Proofs.Ytdpmojhejidhiaa.K

namespace Go.Proofs.Ytdpmojhejidhiaa.K
open Go.RowKit Go.Lib
/-- An interface value's content, asked for a type that is a number's: it and true; or 0 and false. -/
def tasI (k : IntKind) (t : Nat) : Value → Option (Int × Bool)
  | .iface t' u => match Nat.beq t' t with
    | true => (match u with | .int k' n => (match decide (k' = k) with | true => some (n, true) | false => none) | _ => none)
    | false => some (0, false)
  | .nilIface => some (0, false)
  | _ => none
def tasS (t : Nat) : Value → Option (List UInt8 × Bool)
  | .iface t' u => match Nat.beq t' t with
    | true => (match u with | .string s => some (s.data.toList, true) | _ => none)
    | false => some ([], false)
  | .nilIface => some ([], false)
  | _ => none
/-- Does it hold a thing of a type? -/
def isT (t : Nat) : Value → Bool
  | .iface t' _ => Nat.beq t' t
  | _ => false
def inI (k : IntKind) : Value → Option Int
  | .iface _ (.int k' n) => match decide (k' = k) with | true => some n | false => none
  | _ => none
def inS : Value → Option (List UInt8)
  | .iface _ (.string s) => some s.data.toList
  | _ => none
theorem inI_some {k : IntKind} {t : Nat} {v : Value} {n : Int} (ht : isT t v = true) (h : inI k v = some n) : v = .iface t (.int k n) := by
  cases v with
  | iface t' u =>
    have := Nat.eq_of_beq_eq_true ht
    subst this
    cases u with
    | int k' m =>
      simp only [inI] at h
      split at h
      · rename_i hk; cases h; rw [of_decide_eq_true hk]
      · cases h
    | _ => cases h
  | _ => cases ht
theorem inS_some {t : Nat} {v : Value} {l : List UInt8} (ht : isT t v = true) (h : inS v = some l) : v = .iface t (.string (toS l)) := by
  cases v with
  | iface t' u =>
    have := Nat.eq_of_beq_eq_true ht
    subst this
    cases u with
    | string s => cases h; rfl
    | _ => cases h
  | _ => cases ht
def notIface (P : Program) (t : TypeId) : Bool := match P.underlying t with
  | some (.interface _) => false
  | some _ => true
  | none => false
section
variable {P : Program} {o : Oper} {st : St}
theorem Oif {t : TypeId} {x : Operand} {v : Value} (ho : o.op = .makeInterface t x) (hx : opA st x = .d (.lit v) := by kernel_rfl) (ht : notIface P t = true := by kernel_rfl) : OpRun P o st (locOf x) (.d (.lit (.iface t v))) [] := by
  refine .pure fun st' hag cx m S a w hs => ⟨.iface t v, ?_, by simp only [Rep]; unfold RepD; exact ⟨rfl, rfl⟩⟩
  have h1 := op_lit hx (fun _ h => h) hag hs
  unfold notIface at ht
  cases hu : P.underlying t with
  | none => rw [hu] at ht; cases ht
  | some d =>
    rw [hu] at ht
    cases d <;> first | (simp at ht; done) | simp [execOp, ho, h1, Instr.makeInterface, run_underlying hu]
def zeroOf (P : Program) (t : TypeId) : Option Value := match P.info? t with
  | some i => i.zero
  | none => none
theorem run_zero {t : TypeId} {z : Value} (h : zeroOf P t = some z) (w : World) : (zeroValue t).run P w = .ok z w := by
  unfold zeroOf at h
  split at h
  · rename_i i hi; simp [zeroValue, typeInfo, hi, h]
  · cases h
theorem OtI {T t : TypeId} {x : Operand} {k : IntKind} {v : Value} {r : Int × Bool} (hv : tasI k t v = some r) (ho : o.op = .typeAssert x T t true) (hx : opA st x = .d (.lit v) := by kernel_rfl) (ht : notIface P t = true := by kernel_rfl) (hz : zeroOf P t = some (.int k 0) := by kernel_rfl) :
    OpRun P o st (locOf x) (.tup [.d (.lit (.int k r.1)), .d (.lit (.bool r.2))]) [] := by
  refine .pure fun st' hag cx m S a w hs => ⟨.tuple #[.int k r.1, .bool r.2], ?_, ?_⟩
  · have h1 := op_lit hx (fun _ h => h) hag hs
    have hzr := run_zero hz w
    unfold notIface at ht
    cases hu : P.underlying t with
    | none => rw [hu] at ht; cases ht
    | some d =>
      rw [hu] at ht
      cases v with
      | nilIface => cases hv; cases d <;> first | (simp at ht; done) | simp [execOp, ho, h1, Instr.typeAssert, run_underlying hu, hzr]
      | iface t' u =>
        simp only [tasI] at hv
        split at hv
        · rename_i hb
          have := Nat.eq_of_beq_eq_true hb
          subst this
          cases u with
          | int k' n =>
            simp only at hv
            split at hv
            · rename_i hk
              cases hv
              rw [of_decide_eq_true hk] at h1
              cases d <;> first | (simp at ht; done) | simp [execOp, ho, h1, Instr.typeAssert, run_underlying hu]
            · cases hv
          | _ => cases hv
        · rename_i hb
          cases hv
          have hne : ¬ t' = t := fun e => by subst e; rw [Nat.beq_refl] at hb; cases hb
          cases d <;> first | (simp at ht; done) | simp [execOp, ho, h1, Instr.typeAssert, run_underlying hu, hne, hzr]
      | _ => cases hv
  · simp only [Rep, Reps]
    refine ⟨_, rfl, _, _, rfl, ?_, _, _, rfl, ?_, rfl⟩ <;> (unfold RepD; exact ⟨rfl, rfl⟩)
theorem OtS {T t : TypeId} {x : Operand} {v : Value} {r : List UInt8 × Bool} (hv : tasS t v = some r) (ho : o.op = .typeAssert x T t true) (hx : opA st x = .d (.lit v) := by kernel_rfl) (ht : notIface P t = true := by kernel_rfl) (hz : zeroOf P t = some (.string ⟨#[]⟩) := by kernel_rfl) :
    OpRun P o st (locOf x) (.tup [.d (.lit (.string (toS r.1))), .d (.lit (.bool r.2))]) [] := by
  refine .pure fun st' hag cx m S a w hs => ⟨.tuple #[.string (toS r.1), .bool r.2], ?_, ?_⟩
  · have h1 := op_lit hx (fun _ h => h) hag hs
    have hzr := run_zero hz w
    unfold notIface at ht
    cases hu : P.underlying t with
    | none => rw [hu] at ht; cases ht
    | some d =>
      rw [hu] at ht
      cases v with
      | nilIface => cases hv; cases d <;> first | (simp at ht; done) | (simp [execOp, ho, h1, Instr.typeAssert, run_underlying hu, hzr]; rfl)
      | iface t' u =>
        simp only [tasS] at hv
        split at hv
        · rename_i hb
          have := Nat.eq_of_beq_eq_true hb
          subst this
          cases u with
          | string s => cases hv; cases d <;> first | (simp at ht; done) | (simp [execOp, ho, h1, Instr.typeAssert, run_underlying hu]; rfl)
          | _ => cases hv
        · rename_i hb
          cases hv
          have hne : ¬ t' = t := fun e => by subst e; rw [Nat.beq_refl] at hb; cases hb
          cases d <;> first | (simp at ht; done) | (simp [execOp, ho, h1, Instr.typeAssert, run_underlying hu, hne, hzr]; rfl)
      | _ => cases hv
  · simp only [Rep, Reps]
    refine ⟨_, rfl, _, _, rfl, ?_, _, _, rfl, ?_, rfl⟩ <;> (unfold RepD; exact ⟨rfl, rfl⟩)
/-- A method of what an interface value holds: one number or text, no further arguments. -/
theorem Oiv {recv : Operand} {name : String} {ats : Array TypeId} {f : FuncId} {t : TypeId} {u : Value} {res : A} (con : GCall P f [.d (.lit u)] [] res []) (hp : res.Plain) (hin : ∀ args w, (callFunc f args).run P w = .ok (.enter f args) w)
    (hm : ∀ w, (method (P.types.size + Made.depth) t u name).run P w = .ok (f, u) w) (ho : o.op = .call ⟨.invoke recv name, #[], ats⟩) (hx : opA st recv = .d (.lit (.iface t u)) := by kernel_rfl) (hone : u.oneCell' = true := by rfl) (hr : res.ren [] = some res := by kernel_rfl) : OpRun P o st (locOf recv) res [] := by
  intro st' hag hlen cx m S a w hs
  have h1 := op_lit hx (fun _ h => h) hag hs
  have e : (execOp a.eval o).run P w = .ok (.enter f #[u]) w := by
    simp [execOp, ho, resolve, invoke, callMethod, h1, hm w, hin]
  rw [e]
  have hn : ([] ++ [] : List Nat).Nodup := List.nodup_nil
  have hdis : ∀ id ∈ ([] : List Nat), id ∉ ([] ++ [] : List Nat) := fun id hid => by cases hid
  have hargs : Reps m (SV' m S []) w [A.d (.lit u)] [u] := by
    simp only [Reps, Rep]
    exact ⟨u, [], rfl, by unfold RepD; exact ⟨rfl, hone⟩, rfl⟩
  have hpre : renH [] ([] : List Blk) st'.H := ⟨rfl, fun j k h => by simp at h⟩
  have hrun := call_core (vids := []) (nids := []) (pids := []) hs.hold con hargs rfl hpre hn hdis
  refine Calls.mono hrun fun e w' ⟨v, he, m1, S1, h1, h2⟩ => ⟨v, he, ?_⟩
  obtain ⟨m2, hv, hLe, hK, hother, hfree, hV, hold⟩ := merge (post' := []) hs.hold hn hpre ⟨rfl, fun j b h => by simp at h⟩ (fun b h => by cases h) (fun id h => by cases h) hdis h1
  refine ⟨m2, S, hLe, fun _ h => h, hK, hold S _ (fun _ h => h) (fun b hb => h1.s0 b (.inl hb)) (fun j k hj => by simp at hj) (fun k hk => by cases hk) (fun k hk hkv => rfl), ?_⟩
  rw [← hv] at h2
  exact Rep.plain _ _ hp ((Rep.via res res v hr).1 h2)
end
end Go.Proofs.Ytdpmojhejidhiaa.K

namespace Go.Proofs.Ytdpmojhejidhiaa.K
open Go.RowKit Go.Lib
section
variable {P : Program} {K : Exit → St → Prop} {b c : Code} {st : St}
theorem AWP.goto {l : Nat} (h : K (.goto l) st) : AWP P K (.goto l) st := fun cx m S a w hs => wp_goto ⟨st, m, S, h, hs⟩
theorem AWP.label {l : Nat} (h : K .normal st) : AWP P K (.label l) st := fun cx m S a w hs => wp_label ⟨st, m, S, h, hs⟩
theorem Then.goto {l : Nat} (h : K (.goto l) st) : Then P K b (.goto l) st := h
theorem InBlock.goto {l id : Nat} (h : K (.goto l) st) : InBlock id K (.goto l) st := h
theorem RoundK.goto {n l : Nat} (h : K (.goto l) st) : RoundK P K c n (.goto l) st := h
/-- Up to the label. -/
def LabK {α : Type} (S : α → St) (I : α → Prop) (K : Exit → St → Prop) : Exit → St → Prop
  | .normal, st => ∃ x, I x ∧ Weak st (S x)
  | .goto _, _ => False
  | e, st => K e st
/-- From the label on. -/
def JmpK {α : Type} (l : Nat) (S : α → St) (I : α → Prop) (μ : α → Nat) (n : Nat) (K : Exit → St → Prop) : Exit → St → Prop
  | .goto l', st => l' = l ∧ ∃ y, I y ∧ μ y < n ∧ Weak st (S y)
  | e, st => K e st
section
variable {α : Type} {S : α → St} {I : α → Prop} {μ : α → Nat} {l n : Nat}
theorem LabK.ret (h : K .ret st) : LabK S I K .ret st := h
theorem LabK.exit {id : Nat} (h : K (.exit id) st) : LabK S I K (.exit id) st := h
theorem JmpK.ret (h : K .ret st) : JmpK l S I μ n K .ret st := h
theorem JmpK.exit {id : Nat} (h : K (.exit id) st) : JmpK l S I μ n K (.exit id) st := h
theorem JmpK.normal (h : K .normal st) : JmpK l S I μ n K .normal st := h
end
end
section
variable {P : Program} {o : Oper} {st : St}
theorem Ofb {f : FuncId} {x : Operand} {ats : Array TypeId} {n : Int} (hc : ∀ w, (callFunc f #[.int .u64 n]).run P w = .ok (.value (.float .f64 n.toNat)) w) (ho : o.op = .call ⟨.value (.func f), #[x], ats⟩) (hx : opA st x = .d (.lit (.int .u64 n)) := by kernel_rfl) :
    OpRun P o st (locOf x) (.d (.lit (.float .f64 n.toNat))) [] := by
  refine .pure fun st' hag cx m S a w hs => ⟨.float .f64 n.toNat, ?_, by simp only [Rep]; unfold RepD; exact ⟨rfl, rfl⟩⟩
  have h1 := op_lit hx (fun _ h => h) hag hs
  have h2 : a.eval (.func f) = .func (.func f) #[] #[] := rfl
  simp [execOp, ho, resolve, invoke, h1, h2, hc, Deferred.ofValue]
def fne (a b : Nat) : Bool := FloatKind.f64.format.order a b != some .eq
theorem hb_fneq {t : TypeId} {x y : Operand} {a b : Nat} {w : World} : (do eqGuard .neq t x y (.float .f64 a) (.float .f64 b); binOp .neq t (.float .f64 a) (.float .f64 b) : Sem Value).run P w = .ok (.bool (fne a b)) w := by simp [eqGuard, binOp, Op.floatCmp, fne]
end
end Go.Proofs.Ytdpmojhejidhiaa.K

namespace Go.Proofs.Ytdpmojhejidhiaa.K
open Go.RowKit Go.Lib

/-! ### equality of whatever is plain cells -/
section
variable {P : Program}
def partW (P : Program) (t : TypeId) (xs : List Value) (off : Nat) : Option Value := match P.underlying t with
  | some (.struct _) => (match P.info? t with | some i => some (.agg ((xs.drop off).take i.size).toArray) | none => none)
  | some (.array _ _) => (match P.info? t with | some i => some (.agg ((xs.drop off).take i.size).toArray) | none => none)
  | some _ => xs[off]?
  | none => none
theorem extract_eq (xs : List Value) (a n : Nat) : xs.toArray.extract a (a + n) = ((xs.drop a).take n).toArray := by
  apply Array.ext'
  rw [Array.toList_extract]
  simp [List.extract]
theorem partW_run {t : TypeId} {xs : List Value} {off : Nat} {v : Value} (h : partW P t xs off = some v) (w : World) : (part t xs.toArray off).run P w = .ok v w := by
  unfold partW at h
  cases hu : P.underlying t with
  | none => rw [hu] at h; cases h
  | some d =>
    rw [hu] at h
    cases d with
    | struct fs =>
      simp only at h
      cases hi : P.info? t with
      | none => rw [hi] at h; cases h
      | some i => rw [hi] at h; cases h; simp [part, isAgg, run_underlying hu, sizeOf, typeInfo, hi, extract_eq]
    | array n e =>
      simp only at h
      cases hi : P.info? t with
      | none => rw [hi] at h; cases h
      | some i => rw [hi] at h; cases h; simp [part, isAgg, run_underlying hu, sizeOf, typeInfo, hi, extract_eq]
    | _ => simp only at h; simp [part, isAgg, run_underlying hu, h]
def eqFs (P : Program) (g : TypeId → Value → Value → Option Bool) (xs ys : List Value) : List Field → Option Bool
  | [] => some true
  | f :: fs => match decide (f.name ≠ "_"), partW P f.type xs f.offset, partW P f.type ys f.offset with
    | true, some a, some b => match g f.type a b, eqFs P g xs ys fs with
      | some r, some s => some (r && s)
      | _, _ => none
    | _, _, _ => none
def eqIs (P : Program) (g : TypeId → Value → Value → Option Bool) (e c : Nat) (xs ys : List Value) : List Nat → Option Bool
  | [] => some true
  | i :: is => match partW P e xs (i * c), partW P e ys (i * c) with
    | some a, some b => match g e a b, eqIs P g e c xs ys is with
      | some r, some s => some (r && s)
      | _, _ => none
    | _, _ => none
def eqD (P : Program) : Nat → TypeId → Value → Value → Option Bool
  | 0, _, _, _ => none
  | d + 1, t, a, b => match P.underlying t with
    | some (.struct fs) => (match a, b, P.stoodInHeld t with
      | .agg xs, .agg ys, false => eqFs P (eqD P d) xs.toList ys.toList fs.toList
      | _, _, _ => none)
    | some (.array n e) => (match a, b, P.info? e with
      | .agg xs, .agg ys, some i => eqIs P (eqD P d) e i.size xs.toList ys.toList (List.range n)
      | _, _, _ => none)
    | _ => scalEq P t a b
theorem eqFs_run {g : TypeId → Value → Value → Option Bool} {d : Nat} (hg : ∀ t a b r, g t a b = some r → ∀ w, (Op.equalIn d t a b).run P w = .ok r w) {xs ys : List Value} (w : World) : ∀ {fs : List Field} {r : Bool}, eqFs P g xs ys fs = some r → (Op.eqFields d xs.toArray ys.toArray fs).run P w = .ok r w
  | [], r, h => by cases h; simp [Op.eqFields]
  | f :: fs, r, h => by
    unfold eqFs at h
    split at h
    · next a b hn ha hb =>
      split at h
      · next q s hq hs =>
        cases h
        have ih := eqFs_run hg w hs
        simp only [Op.eqFields, if_pos (of_decide_eq_true hn), Sem.run_bind, partW_run ha, partW_run hb, Result.andThen_ok, hg _ _ _ _ hq]
        cases q
        · simp
        · simp [ih]
      · cases h
    · cases h
theorem eqIs_run {g : TypeId → Value → Value → Option Bool} {d e c : Nat} (hg : ∀ t a b r, g t a b = some r → ∀ w, (Op.equalIn d t a b).run P w = .ok r w) {xs ys : List Value} (w : World) : ∀ {is : List Nat} {r : Bool}, eqIs P g e c xs ys is = some r → (Op.eqItems d e c xs.toArray ys.toArray is).run P w = .ok r w
  | [], r, h => by cases h; simp [Op.eqItems]
  | i :: is, r, h => by
    unfold eqIs at h
    split at h
    · next a b ha hb =>
      split at h
      · next q s hq hs =>
        cases h
        have ih := eqIs_run hg w hs
        simp only [Op.eqItems, Sem.run_bind, partW_run ha, partW_run hb, Result.andThen_ok, hg _ _ _ _ hq]
        cases q
        · simp
        · simp [ih]
      · cases h
    · cases h
theorem eqD_run : ∀ (k : Nat) (t : TypeId) (a b : Value) (r : Bool), eqD P k t a b = some r → ∀ (d : Nat) (w : World), (Op.equalIn (d + k) t a b).run P w = .ok r w
  | 0, _, _, _, _, h, _, _ => by cases h
  | k + 1, t, a, b, r, h, d, w => by
    have ih : ∀ t a b r, eqD P k t a b = some r → ∀ w, (Op.equalIn (d + k) t a b).run P w = .ok r w := fun t a b r h w => eqD_run k t a b r h d w
    unfold eqD at h
    cases hu : P.underlying t with
    | none => rw [hu] at h; exact scalEq_run h (d + k) w
    | some ds =>
      rw [hu] at h
      cases ds with
      | struct fs =>
        simp only at h
        split at h
        · next xs ys hs =>
          have hf : P.fieldsOf t = fs := by simp [Program.fieldsOf, hu]
          rw [show d + (k + 1) = d + k + 1 from rfl, run_equalIn_struct w (d + k) t _ _ (by rw [hf]; exact hu) hs, hf]
          exact eqFs_run ih w h
        · cases h
      | array n e =>
        simp only at h
        split at h
        · next xs ys i hi =>
          rw [show d + (k + 1) = d + k + 1 from rfl, run_equalIn_array w (d + k) _ _ hu hi]
          have : P.cellsOf e = i.size := by simp [Program.cellsOf, hi]
          rw [this]
          exact eqIs_run ih w h
        · cases h
      | _ => exact scalEq_run h (d + k) w
end
section
variable {P : Program} {o : Oper} {st : St}
theorem op_neq_deep {t u : TypeId} {x y : Operand} {la lb : List A} {us vs : List Value} {r : Bool} (ho : o.op = .binOp .neq t x y u) (hx : opA st x = .agg la) (hy : opA st y = .agg lb) (h1 : litsOf la = some us) (h2 : litsOf lb = some vs) (h : eqD P 8 t (.agg us.toArray) (.agg vs.toArray) = some r) (hg : P.eqGuardType P.depth t = false) : OpRun P o st (locsOf [x, y]) (.d (.lit (.bool (!r)))) [] := by
  refine .pure fun st' hag cx m S a w hs => ⟨.bool (!r), ?_, by simp only [Rep]; unfold RepD; exact ⟨rfl, rfl⟩⟩
  have e1 := op_agg_lits hx h1 (R := locsOf [x, y]) (fun l h => by simp [locsOf, h]) hag hs
  have e2 := op_agg_lits hy h2 (R := locsOf [x, y]) (fun l h => by simp [locsOf, h]) hag hs
  have k := eqD_run 8 t _ _ r h 9992 w
  simp only [execOp, ho, e1, e2, Sem.run_bind, run_eqGuard_agg w _ _ _ _ _ _ hg, Result.andThen_ok, run_neq_struct, k]
  simp
/-! ### nil -/
/-! ### a row's mark -/
theorem RowAt.shape {w : World} {g : Nat} {cur : Array Value} {e : TypeId} (h : RowAt w g cur e) : w.shape? g = some (e, cur.size) := by
  obtain ⟨fz, h, _⟩ := h
  unfold World.shape?; rw [h]
/-! ### an array's cells as a slice -/
end
end Go.Proofs.Ytdpmojhejidhiaa.K

namespace Go.Proofs.Ytdpmojhejidhiaa.K
open Go.RowKit Go.Lib
section
variable {P : Program} {o : Oper} {st : St}
def zeroD (P : Program) (t : TypeId) : Option (List D) := match zeroA P t with
  | some ys => toDs ys
  | none => none
/-- A variable that is an array, as a row. -/
theorem OaA {t n sz id : Nat} {xs : List D} (ho : o.op = .alloc t) (hz : zeroD P t = some xs := by kernel_rfl) (hl : Nat.beq xs.length (n * sz) = true := by kernel_rfl) (hm : Nat.ble n 1000000 = true := by rfl) (hid : st.H.getD id .unborn = .unborn := by kernel_rfl) :
    OpRun P o st [.blk id] (.loc id 0) [(id, .arr t sz n xs)] := by
  unfold zeroD at hz
  cases hzz : zeroA P t with
  | none => rw [hzz] at hz; cases hz
  | some ys =>
    rw [hzz] at hz
    refine .value fun st' hag cx m S a w hs => ?_
    have hid' : st'.H.getD id .unborn = .unborn := (blk1 (by simp) hag).trans hid
    obtain ⟨i, z, hi, hz2, h1, rfl⟩ := zeroA_spec hzz
    have hr := toDs_reps hz (litAs_rep (m := m) (S := S) (w := w) z.cells.toList)
    have hxl : z.cells.toList.length = n * sz := by rw [hr.1]; exact Nat.eq_of_beq_eq_true hl
    have hn : n ≤ maxLen := by have := Nat.le_of_ble_eq_true hm; unfold maxLen; omega
    have := hs.hold.alloc hid' (.arr (.slice (some ⟨w.heap.size, 0, none⟩) n n)) rfl (.cells z.cells t) (.arr t sz n xs) fun hK hLe =>
      ⟨_, by simp [updM], ⟨z.cells.toList, ⟨hxl, .inr ⟨w.heap.size, n, z.cells, rfl, Nat.zero_le _, RowAt.of (heap_alloc_new w _), Nat.le_refl _, hn, by simpa using hxl, by rw [List.take_of_length_le (by omega)]⟩⟩, hr.mono (fun _ h => h) hK, h1⟩, fun g hg hS => by
        simp only [Value.ownBlock, Option.some.injEq] at hg; subst hg; have := (hs.hold.s _ hS).2; omega⟩
    refine ⟨_, _, _, S, ?_, this.1, fun _ h => h, this.2.1, this.2.2, by simp only [Rep, updM, if_true]; exact ⟨_, rfl, rfl⟩⟩
    simp [execOp, ho, Instr.alloc, zeroValue, typeInfo, hi, hz2, newVar, newRow]
/-- An element's address in it. -/
theorem OiR {t n sz id : Nat} {x ix : Operand} {iv : Int} (ho : o.op = .indexAddr t x ix) (h1 : iv = ((Int.toNat iv : Nat) : Int)) (h2 : Int.toNat iv < n) (hn : arrElem P t = some (n, sz) := by kernel_rfl) (hx : opA st x = .loc id 0 := by kernel_rfl) (hc : (cellsAt st.H (opA st x)).isSome = true := by kernel_rfl) (hix : intOf (opA st ix) = some iv := by kernel_rfl) :
    OpRun P o st (locsOf [x, ix] ++ locA (opA st x)) (.loc id (Int.toNat iv * sz)) [] := by
  obtain ⟨k, hk⟩ := intOf_spec hix
  refine (op_iaddr_arr ho rfl hc hn hk h1 h2).cast ?_
  rw [hx]
  simp only [addA, Nat.zero_add]
/-- Its end, as a slice. -/
theorem Osa {t n n' sz id e a : Nat} {x y : Operand} {iv : Int} {xs : List D} (ho : o.op = .slice t x (some y) none none) (hnn : n' = n) (h0 : iv = ((a : Nat) : Int)) (ha : a < n) (hn : arrElem P t = some (n, sz) := by kernel_rfl) (hx : opA st x = .loc id 0 := by kernel_rfl) (hb : st.H.getD id .unborn = .arr e sz n' xs := by kernel_rfl) (hy : intOf (opA st y) = some iv := by kernel_rfl) :
    OpRun P o st (locsOf [x, y] ++ [.blk id]) (.sub id (a * sz) (n' - a)) [] := by
  subst hnn
  obtain ⟨k, hk⟩ := intOf_spec hy
  refine .pure fun st' hag cx m S act w hs => ?_
  have hb' : st'.H.getD id .unborn = .arr e sz n' xs := (blk1 (by simp) hag).trans hb
  have hr := op_rep hx (R := locsOf [x, y] ++ [.blk id]) (fun l h => by simp [locsOf, h]) hag hs
  have e2 := op_lit hk (R := locsOf [x, y] ++ [.blk id]) (fun l h => by simp [locsOf, h]) hag hs
  have hok := hs.hold.ok id
  rw [hb'] at hok
  obtain ⟨v, h5, ⟨cells, ⟨_, hrow⟩, _⟩, _⟩ := hok
  simp only [Rep, h5] at hr
  obtain ⟨g, hg, hp⟩ := hr
  have hnm : n' ≤ maxLen := by
    rcases hrow with ⟨rfl, _⟩ | ⟨g', cap, cur, rfl, _, _, h6, h7, _⟩
    · simp [Value.ownBlock] at hg
    · omega
  obtain ⟨e', inf, hu, hinf, hsz⟩ := arrElem_spec hn
  subst h0
  have h3 : (0 : Int) ≤ a ∧ (a : Int) ≤ n' := by omega
  refine ⟨.slice (some ⟨g, a * sz, none⟩) (n' - a) (n' - a), ?_, ?_⟩
  · simp [execOp, ho, Instr.sliceAt, run_underlying hu, hp, e2, Instr.sureAddr, Instr.sliceBounds, Instr.sliceBound, asIntOf, sizeOf, typeInfo, hinf, hsz, addr_add, Nat.le_of_lt ha, show ¬ n' = a by omega]
  · simp only [Rep, h5]
    exact ⟨g, _, hg, rfl, Nat.le_refl _, by omega⟩
/-- All of it, as a slice. -/
theorem Osa0 {t n n' sz id e : Nat} {x : Operand} {xs : List D} (ho : o.op = .slice t x none none none) (hnn : n' = n) (hn : arrElem P t = some (n, sz) := by kernel_rfl) (hx : opA st x = .loc id 0 := by kernel_rfl) (hb : st.H.getD id .unborn = .arr e sz n' xs := by kernel_rfl) :
    OpRun P o st (locOf x ++ [.blk id]) (.sub id (0 * sz) (n' - 0)) [] := by
  subst hnn
  refine .pure fun st' hag cx m S act w hs => ?_
  have hb' : st'.H.getD id .unborn = .arr e sz n' xs := (blk1 (by simp) hag).trans hb
  have hr := op_rep hx (R := locOf x ++ [.blk id]) (fun l h => by simp [h]) hag hs
  have hok := hs.hold.ok id
  rw [hb'] at hok
  obtain ⟨v, h5, ⟨cells, ⟨_, hrow⟩, _⟩, _⟩ := hok
  simp only [Rep, h5] at hr
  obtain ⟨g, hg, hp⟩ := hr
  have hnm : n' ≤ maxLen := by
    rcases hrow with ⟨rfl, _⟩ | ⟨g', cap, cur, rfl, _, _, h6, h7, _⟩
    · simp [Value.ownBlock] at hg
    · omega
  obtain ⟨e', inf, hu, hinf, hsz⟩ := arrElem_spec hn
  refine ⟨.slice (some ⟨g, 0, none⟩) n' n', ?_, ?_⟩
  · simp [execOp, ho, Instr.sliceAt, run_underlying hu, hp, Instr.sureAddr, Instr.sliceBounds, sizeOf, typeInfo, hinf, hsz, Addr.add]
  · simp only [Rep, h5]
    exact ⟨g, _, hg, by simp, Nat.le_refl _, by omega⟩
end
theorem flatU8_drop {l : List UInt8} {a : Nat} : ((flatD encU8 l).drop (a * 1)).take (l.length - a) = bytesD (l.drop a) := by
  rw [flatU8, Nat.mul_one]
  unfold bytesD
  rw [← List.map_drop, List.take_of_length_le (by simp)]
theorem toNat_eq {n : Int} (h : 0 ≤ n) : n = ((Int.toNat n : Nat) : Int) := by omega
theorem toNat_lt' {n : Int} {k : Nat} (h0 : 0 ≤ n) (h : n < (k : Int)) : Int.toNat n < k := by omega
theorem u8m {x : UInt8} {b : Int} (h : 0 < b) : Int.tmod ((x.toNat : Nat) : Int) b = (((toU8 (Int.tmod ((x.toNat : Nat) : Int) b)).toNat : Nat) : Int) := by
  have hx : x.toNat < 256 := x.toNat_lt
  obtain ⟨k, rfl⟩ : ∃ k : Nat, b = (k : Int) := ⟨b.toNat, by omega⟩
  have e : Int.tmod ((x.toNat : Nat) : Int) (k : Int) = ((x.toNat % k : Nat) : Int) := (Int.ofNat_tmod _ _).symm
  have := Nat.mod_le x.toNat k
  rw [e]
  unfold toU8
  rw [UInt8.toNat_ofNat']
  omega
end Go.Proofs.Ytdpmojhejidhiaa.K

namespace Go.Proofs.Ytdpmojhejidhiaa.K
open Go.RowKit Go.Lib
abbrev W6 (n : Int) : Int := IntKind.i64.wrap n
abbrev W7 (n : Int) : Int := IntKind.u64.wrap n
abbrev A.u (n : Int) : A := .d (.lit (.int .u64 n))
abbrev Ar {α : Type} (e sz : Nat) (enc : α → List D) (l : List α) : Blk := .arr e sz (List.length l) (flatD enc l)
section
variable {P : Program} {ops : Array Oper} {K : St → List Ef → Prop} {o : Oper} {l : List Oper} {st : St} {F : List Ef}
theorem Wz (val : A) {R : List Loc} (hop : OpRun P o st R val []) (h : Walk P ops K l (st.put o.dst val []) (F ++ [⟨o.dst, val, [], gLoc ops o ++ R⟩])) (hg : gYes ops st o = true := by kernel_rfl) : Walk P ops K (o :: l) st F := Walk.yes hg hop h
theorem Wm (val : A) {x : Operand} (ho : mvOf o.op = some x) (h : Walk P ops K l (st.put o.dst val []) (F ++ [⟨o.dst, val, [], gLoc ops o ++ locOf x⟩])) (hv : opA st x = val := by kernel_rfl) (hg : gYes ops st o = true := by kernel_rfl) : Walk P ops K (o :: l) st F := Walk.yes hg ((op_move ho).cast hv) h
/-- The same, the bit being known. -/
theorem Oq {x : Operand} {b c : Bool} (hb : b = c) (ho : mvOf o.op = some x) (hv : opA st x = .d (.lit (.bool b)) := by kernel_rfl) : OpRun P o st (locOf x) (.d (.lit (.bool c))) [] := Ocs (lit_tf hb) (Omv ho hv)
theorem Ob2 {op : BinOp} {t u : TypeId} {x y : Operand} {v : Value} {val : A} (a1 a2 : Value) (ho : o.op = .binOp op t x y u) (hrun : ∀ w, (do eqGuard op t x y a1 a2; binOp op t a1 a2 : Sem Value).run P w = .ok v w)
    (e : A.d (.lit v) = val := by kernel_rfl) (hx : opA st x = .d (.lit a1) := by kernel_rfl) (hy : opA st y = .d (.lit a2) := by kernel_rfl) (h1 : v.oneCell' = true := by rfl) : OpRun P o st (locsOf [x, y]) val [] := Ocs e (op_bin ho hx hy hrun h1)
theorem Oc2 {s t : TypeId} {x : Operand} {v : Value} {val : A} (a1 : Value) (ho : o.op = .convert s t x) (hrun : ∀ w, (convert s t a1).run P w = .ok v w) (e : A.d (.lit v) = val := by kernel_rfl) (hx : opA st x = .d (.lit a1) := by kernel_rfl) (h1 : v.oneCell' = true := by rfl) :
    OpRun P o st (locOf x) val [] := Ocs e (op_convert ho hx hrun h1)
theorem Wn0 (h : K st F) : Walk P ops K [] st F := h
end
section
variable {P : Program} {K : Exit → St → Prop} {b c x y : Code} {st : St} {id : Nat} {l : List Oper} {F : List Ef} {ops : Array Oper} {q : Operand} {z : Bool}
theorem AiT (hz : z = true) (h : AWP P K x st) (hc : opA st q = .d (.lit (.bool z)) := by kernel_rfl) : AWP P K (.cond q x y) st := AWP.if_ true (Eq.trans hc (lit_tf hz)) h
theorem AiF (hz : z = false) (h : AWP P K y st) (hc : opA st q = .d (.lit (.bool z)) := by kernel_rfl) : AWP P K (.cond q x y) st := AWP.if_ false (Eq.trans hc (lit_tf hz)) h
theorem Sq (h : AWP P (Then P K c) b st) : AWP P K (.seq b c) st := AWP.seq h
theorem Tx (h : Walk P l.toArray (fun st' _ => K .normal st') l st []) : AWP P K (.region id l.toArray false) st := AWP.text h
theorem Sx (h : Walk P l.toArray (fun st' _ => Then P K c .normal st') l st []) : AWP P K (.seq (.region id l.toArray false) c) st := AWP.seq (AWP.text h)
theorem Tn (h : AWP P K b st) : Then P K b .normal st := h
theorem Nn (h : AWP P K b st) : Walk P ops (fun st' _ => Then P K b .normal st') [] st F := h
theorem Nk (ks kb : Nat) (st' : St) (h : AWP P K b st') (e : (⟨maskE ks 0 0 st.env, maskH kb 0 st.H, st.k⟩ : St) = st' := by kernel_rfl) : Walk P ops (fun st' _ => Then P K b .normal st') [] st F := Amk ks kb st' h e
theorem Tk (ks kb : Nat) (st' : St) (h : AWP P K b st') (e : (⟨maskE ks 0 0 st.env, maskH kb 0 st.H, st.k⟩ : St) = st' := by kernel_rfl) : Then P K b .normal st := Amk ks kb st' h e
theorem Rt (h : K .ret st) : AWP P K .ret st := AWP.ret h
theorem Sk (h : K .normal st) : AWP P K .skip st := AWP.skip h
theorem Bk (h : AWP P (InBlock id K) b st) : AWP P K (.block id b) st := AWP.block h
theorem Ir {id : Nat} (h : K .ret st) : InBlock id K .ret st := h
theorem Ino {id : Nat} (h : K .normal st) : InBlock id K .normal st := h
theorem Tr (h : K .ret st) : Then P K b .ret st := h
end
end Go.Proofs.Ytdpmojhejidhiaa.K

namespace Go.Proofs.Ytdpmojhejidhiaa.K
open Go.RowKit Go.Lib
theorem Hold.below {m : Mp} {S : Nat → Prop} {w w' : World} (h : Hold ⟨w, S, P0of m S, m⟩ m S w []) (hb : Below w.heap.size w w') : Hold ⟨w, S, P0of m S, m⟩ m S w' [] := by
  refine ⟨hb.os, hb.tape, hb.output, hb.size, fun b hlt _ => hb.block b hlt, h.s0, fun b hs => ?_, fun id p b hm hp => ?_, h.apart, fun id => ?_, h.le⟩
  · have := h.s b hs
    exact ⟨this.1, Nat.lt_of_lt_of_le this.2 hb.size⟩
  · have := h.pl id p b hm hp
    exact ⟨this.1, Nat.lt_of_lt_of_le this.2 hb.size⟩
  · have := h.ok id
    simpa [BlkOK] using this
theorem Keeps.below {m : Mp} {S : Nat → Prop} {w w' : World} (h : Hold ⟨w, S, P0of m S, m⟩ m S w []) (hb : Below w.heap.size w w') : Keeps S w w' := fun b hs => hb.block b (h.s b hs).2
end Go.Proofs.Ytdpmojhejidhiaa.K

namespace Go.Proofs.Ytdpmojhejidhiaa.B
open Go.RowKit Go.Shelf
attribute [local go_sem] Oper.semAt_some
abbrev bT : TypeId := 114
abbrev u8T : TypeId := 5
set_option maxHeartbeats 1000000 in
set_option maxRecDepth 100000 in
theorem cc_used (b : Nat) (w : World) (h0 : w.cell? ⟨b, 0, none⟩ = some (.pointer (some ⟨b, 0, none⟩))) :
    Calls Try.prog 94 #[.pointer (some ⟨b, 0, none⟩)] w fun e w' => e = .returned (.tuple #[]) ∧ w' = w := by
  obtain ⟨j, hj, _⟩ := Option.map_eq_some_iff.1 (show ((Try.prog).info? bT).map (·.size) = some 2 by kernel_rfl)
  go_enter Try.func94, Try.ntmps94
  go_wp2
  rw [Lib.run_neq_ptr_same w _ Try.underlying112 hj]
  go_wp2
  go_end0
  exact ⟨rfl, rfl⟩
set_option maxHeartbeats 1000000 in
set_option maxRecDepth 100000 in
theorem cc_fresh (b : Nat) (w : World) (h0 : w.cell? ⟨b, 0, none⟩ = some (.pointer none)) (hsh : w.shape? b = some (bT, 2)) (hfz : w.frozen? ⟨b, 0, none⟩ = false) :
    Calls Try.prog 94 #[.pointer (some ⟨b, 0, none⟩)] w fun e w' => e = .returned (.tuple #[]) ∧ w' = w.setCell ⟨b, 0, none⟩ (.pointer (some ⟨b, 0, none⟩)) := by
  obtain ⟨j, hj, hjs⟩ := Option.map_eq_some_iff.1 (show ((Try.prog).info? bT).map (·.size) = some 2 by kernel_rfl)
  go_enter Try.func94, Try.ntmps94
  go_wp2
  rw [Lib.run_to_unsafe w ⟨b, 0, none⟩ Try.underlying112 Try.underlying133 hj (by rw [hjs]; decide) hsh (Nat.zero_lt_succ 1)]
  simp only [Result.andThen]
  rw [Oper.upon_value]
  go_wp2
  rw [run_callFunc_extern Try.func97 (by kernel_rfl) (by kernel_rfl) (by kernel_rfl) (e := Extern.AbiNoEscape.same) (by kernel_rfl)]
  rw [Lib.run_noEscape]
  simp only [Result.andThen]
  rw [Oper.upon_value]
  go_wp2
  rw [Lib.run_from_unsafe w ⟨b, 0, none⟩ Try.underlying133 Try.underlying112 hj hsh (by kernel_rfl)]
  simp only [Result.andThen]
  rw [Oper.upon_value]
  go_wp2
  go_end0
  exact ⟨rfl, rfl⟩
theorem cc_any (B b : Nat) (bs : List Value) (w : World) (h : Lib.IsBuilder bT u8T B b bs w) :
    Calls Try.prog 94 #[.pointer (some ⟨b, 0, none⟩)] w fun e w' => e = .returned (.tuple #[]) ∧ Lib.BuilderAt bT u8T B b (.pointer (some ⟨b, 0, none⟩)) bs w' ∧ Below B w w' := by
  rcases h with h | h
  · refine (cc_fresh b w h.cell0 h.shape h.frozen0).mono ?_
    rintro e w' ⟨rfl, rfl⟩
    exact ⟨rfl, h.used _, (Below.refl B w).setCell (p := ⟨b, 0, none⟩) h.1 _⟩
  · refine (cc_used b w h.cell0).mono ?_
    rintro e w' ⟨rfl, rfl⟩
    exact ⟨rfl, h, Below.refl B _⟩
theorem u8_info : ∃ i, (Try.prog).info? u8T = some i ∧ i.zero = some (.int .u8 0) ∧ i.size = 1 ∧ i.bytes = 1 := by
  have h : ((Try.prog).info? u8T).map (fun i => (i.zero, i.size, i.bytes)) = some (some (.int .u8 0), 1, 1) := by kernel_rfl
  cases hi : (Try.prog).info? u8T with
  | none => rw [hi] at h; cases h
  | some i =>
    rw [hi] at h
    simp only [Option.map_some, Option.some.injEq, Prod.mk.injEq] at h
    exact ⟨i, rfl, h.1, h.2.1, h.2.2⟩
theorem enters_cc : ∀ args w, (callFunc 94 args).run Try.prog w = .ok (.enter 94 args) w := enters_of Try.func94 (by kernel_rfl) rfl
set_option maxHeartbeats 2000000 in
set_option maxRecDepth 100000 in
theorem put_byte (B b : Nat) (bs : List Value) (c : Int) (w : World) (h : Lib.IsBuilder bT u8T B b bs w) (hlen : bs.length + 1 ≤ 140737488355328) (hBw : B ≤ w.heap.size) :
    Calls Try.prog 76 #[.pointer (some ⟨b, 0, none⟩), .int .u8 c] w fun e w' => e = .returned .nilIface ∧ Lib.BuilderAt bT u8T B b (.pointer (some ⟨b, 0, none⟩)) (bs ++ [.int .u8 c]) w' ∧ Below B w w' := by
  obtain ⟨i0, hi, hz0, hz1, hz2⟩ := u8_info
  have e240 := enters_cc
  go_enter Try.func76, Try.ntmps76
  go_wp2_with (go_at_call 94; refine (cc_any B b bs _ h).mono ?_)
  rintro e w1 ⟨rfl, h1, hb1⟩
  obtain ⟨hB, v, hbk, hown, hne⟩ := h1
  have c0 : w1.cell? ⟨b, 0, none⟩ = some (.pointer (some ⟨b, 0, none⟩)) := by rw [Lib.cell_of_heap hbk]; rfl
  have c1 : w1.cell? ⟨b, 1, none⟩ = some v := by rw [Lib.cell_of_heap hbk]; rfl
  go_wp2_with (at_builtin; refine wpList_append_own _ rfl _ _ 109 rfl B u8T i0 (.int .u8 0) 1 1 Try.underlying109 hi hz0 hz1 hz2 rfl (by decide) _ _ _ rfl (hown.alloc _) ⟨w1.heap.size, 0, none⟩ 1 1 [.int .u8 c] rfl rfl ?c1 ?c2 ?c3 ?c4 ?c5 ?_)
  case c1 =>
    intro j u hj
    match j, hj with
    | 0, hj => simp at hj; subst hj; simp [Addr.add]
  case c2 => intro u hu; simp at hu; subst hu; rfl
  case c3 => unfold maxLen; omega
  case c4 => omega
  case c5 => have := hb1.size; simp; omega
  intro v' w2 hown' hgrow _
  have hlt : b < w1.heap.size := (Array.getElem?_eq_some_iff.1 hbk).1
  have hb2 : w2.heap[b]? = some (.cells #[.pointer (some ⟨b, 0, none⟩), v] bT (0, 0)) := by
    rw [hgrow.block b (by simp; omega) (fun e => hne e.symm), Lib.alloc_old w1 _ b hlt]
    exact hbk
  have d0 : w2.cell? ⟨b, 0, none⟩ = some (.pointer (some ⟨b, 0, none⟩)) := by rw [Lib.cell_of_heap hb2]; rfl
  have d1 : w2.cell? ⟨b, 1, none⟩ = some v := by rw [Lib.cell_of_heap hb2]; rfl
  have f1 : w2.frozen? ⟨b, 1, none⟩ = false := Lib.frozen_of_heap hb2 1
  obtain ⟨g, cap, rfl⟩ : ∃ g cap, v' = .slice (some ⟨g, 0, none⟩) (bs.length + 1) cap := by
    rcases hown'.2 with ⟨_, h0⟩ | ⟨g, cap, cur, hv, _⟩
    · omega
    · exact ⟨g, cap, hv⟩
  go_wp2
  go_ret
  refine ⟨rfl, ?_, ?_⟩
  · exact Lib.BuilderAt.put (T := bT) (e := u8T) hB hb2 (bs' := bs ++ [.int .u8 c]) (by simpa using hown') (by decide)
  · exact ((hb1.alloc (by have := hb1.size; omega) _).grown hgrow (by have := hb1.size; simp; omega) (fun k hk => (hown.lt k hk).1)).setCell (p := ⟨b, 1, none⟩) hB _
set_option maxHeartbeats 2000000 in
set_option maxRecDepth 100000 in
theorem put_string (B b : Nat) (bs : List Value) (s : ByteArray) (w : World) (h : Lib.IsBuilder bT u8T B b bs w) (hlen : bs.length + s.size ≤ 140737488355328) (hBw : B ≤ w.heap.size) :
    Calls Try.prog 77 #[.pointer (some ⟨b, 0, none⟩), .string s] w fun e w' => e = .returned (.tuple #[.int .i64 s.size, .nilIface]) ∧ Lib.BuilderAt bT u8T B b (.pointer (some ⟨b, 0, none⟩)) (bs ++ Lib.strCells s) w' ∧ Below B w w' := by
  obtain ⟨i0, hi, hz0, hz1, hz2⟩ := u8_info
  have e240 := enters_cc
  go_enter Try.func77, Try.ntmps77
  go_wp2_with (go_at_call 94; refine (cc_any B b bs _ h).mono ?_)
  rintro e w1 ⟨rfl, h1, hb1⟩
  obtain ⟨hB, v, hbk, hown, hne⟩ := h1
  have c0 : w1.cell? ⟨b, 0, none⟩ = some (.pointer (some ⟨b, 0, none⟩)) := by rw [Lib.cell_of_heap hbk]; rfl
  have c1 : w1.cell? ⟨b, 1, none⟩ = some v := by rw [Lib.cell_of_heap hbk]; rfl
  go_wp2_with (at_builtin; refine Lib.wpList_append_own_string _ rfl _ _ 109 9 rfl B u8T i0 Try.underlying109 Try.underlying9 hi hz0 hz1 hz2 _ _ _ rfl hown s rfl ?c3 ?c4 ?c5 ?_)
  case c3 => unfold maxLen; omega
  case c4 => omega
  case c5 => have := hb1.size; omega
  intro v' w2 hown' hgrow _
  have hlt : b < w1.heap.size := (Array.getElem?_eq_some_iff.1 hbk).1
  have hb2 : w2.heap[b]? = some (.cells #[.pointer (some ⟨b, 0, none⟩), v] bT (0, 0)) := by
    rw [hgrow.block b hlt (fun e => hne e.symm)]
    exact hbk
  have d0 : w2.cell? ⟨b, 0, none⟩ = some (.pointer (some ⟨b, 0, none⟩)) := by rw [Lib.cell_of_heap hb2]; rfl
  have d1 : w2.cell? ⟨b, 1, none⟩ = some v := by rw [Lib.cell_of_heap hb2]; rfl
  have f1 : w2.frozen? ⟨b, 1, none⟩ = false := Lib.frozen_of_heap hb2 1
  obtain ⟨ao, n', cap, rfl⟩ : ∃ ao n' cap, v' = .slice ao n' cap := by
    rcases hown'.2 with ⟨hv, _⟩ | ⟨g, cap, cur, hv, _⟩
    · exact ⟨_, _, _, hv⟩
    · exact ⟨_, _, _, hv⟩
  go_wp2
  go_ret2
  refine ⟨rfl, ?_, ?_⟩
  · exact Lib.BuilderAt.put (T := bT) (e := u8T) hB hb2 (bs' := bs ++ Lib.strCells s) (by simpa [Lib.strCells_length] using hown') (by decide)
  · exact (hb1.grown hgrow (by have := hb1.size; omega) (fun k hk => (hown.lt k hk).1)).setCell (p := ⟨b, 1, none⟩) hB _
end Go.Proofs.Ytdpmojhejidhiaa.B
