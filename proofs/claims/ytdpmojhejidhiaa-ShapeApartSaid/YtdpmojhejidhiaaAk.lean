/- build, buildSlice, append, copy, len, make, slices, strings, parts of structs. -/
import Derived.Test.YtdpmojhejidhiaaAj
namespace Go.Proofs.Ytdpmojhejidhiaa.K
open Go.RowKit
set_option linter.unusedVariables false
set_option linter.unusedSimpArgs false

/-! ### literals -/
def fillA (place : List (Nat × Nat)) : List A → List (Nat × A) → Option (List A)
  | ys, [] => some ys
  | ys, (i, x) :: rest => match place[i]?, cellsOf x with
    | some (off, size), some cs => match Nat.beq cs.length size, Nat.ble (off + cs.length) ys.length with
      | true, true => fillA place (putC ys off cs) rest
      | _, _ => none
    | _, _ => none
theorem fold_put : ∀ (vs : List Value) (k : Nat) (cells : Array Value) (off : Nat), off + k + vs.length ≤ cells.size →
    ((vs.zipIdx k).foldl (fun cs (p : Value × Nat) => cs.setIfInBounds (off + p.2) p.1) cells).toList = putC cells.toList (off + k) vs
  | [], k, cells, off, h => by simp [putC]
  | v :: vs, k, cells, off, h => by
    simp only [List.zipIdx_cons, List.foldl_cons]
    rw [fold_put vs (k + 1) _ off (by simp at h ⊢; omega)]
    simp only [List.length_cons] at h
    apply List.ext_getElem?
    intro i
    rw [putC_get _ _ _ _ (by simp; omega), putC_get _ _ _ _ (by simp; omega), Array.toList_setIfInBounds, List.getElem?_set]
    simp only [List.length_cons]
    by_cases h1 : i < off + k
    · rw [if_pos (by omega), if_pos h1, if_neg (by omega)]
    · by_cases h2 : i = off + k
      · subst h2
        rw [if_pos (by omega), if_neg h1, if_pos rfl, if_pos (by simp; omega), if_pos (by omega)]
        simp
      · rw [if_neg (by omega), if_neg h1]
        by_cases h3 : i < off + k + (vs.length + 1)
        · rw [if_pos (by omega), if_pos h3]
          obtain ⟨j, rfl⟩ : ∃ j, i = off + k + 1 + j := ⟨i - (off + k + 1), by omega⟩
          rw [show off + k + 1 + j - (off + (k + 1)) = j by omega, show off + k + 1 + j - (off + k) = j + 1 by omega]
          simp
        · rw [if_neg (by omega), if_neg h3, if_neg (by omega)]
section
variable {m : Mp} {S : Nat → Prop} {w : World}
theorem fill_spec {place : List (Nat × Nat)} {pl : Nat → Option (Nat × Nat)} (hpl : ∀ i q, place[i]? = some q → pl i = some q) : ∀ {parts : List (Nat × A)} {vparts : List (Nat × Value)} {ys zs : List A} {cells : Array Value}, fillA place ys parts = some zs →
    Reps m S w ys cells.toList → ones cells.toList → vparts.length = parts.length → (∀ (i k : Nat) (x : A) (v : Nat × Value), parts[i]? = some (k, x) → vparts[i]? = some v → v.1 = k ∧ Rep m S w x v.2) →
    ∃ cells', Instr.fill pl cells vparts = some cells' ∧ Reps m S w zs cells'.toList ∧ ones cells'.toList
  | [], vparts, ys, zs, cells, h, hr, h1, hl, hp => by
    simp only [fillA, Option.some.injEq] at h; subst h
    have : vparts = [] := List.eq_nil_of_length_eq_zero (by simpa using hl)
    subst this
    exact ⟨cells, rfl, hr, h1⟩
  | (k, x) :: parts, [], ys, zs, cells, h, hr, h1, hl, hp => by simp at hl
  | (k, x) :: parts, (k', v) :: vparts, ys, zs, cells, h, hr, h1, hl, hp => by
    obtain ⟨hk, hv⟩ := hp 0 k x (k', v) rfl rfl
    simp only at hk hv
    subst hk
    simp only [fillA] at h
    cases hq : place[k']? with
    | none => rw [hq] at h; simp at h
    | some q =>
      obtain ⟨off, size⟩ := q
      cases hc : cellsOf x with
      | none => rw [hq, hc] at h; simp at h
      | some cs =>
        rw [hq, hc] at h
        simp only at h
        cases hb1 : Nat.beq cs.length size with
        | false => rw [hb1] at h; simp at h
        | true =>
          cases hb2 : Nat.ble (off + cs.length) ys.length with
          | false => rw [hb1, hb2] at h; simp at h
          | true =>
            rw [hb1, hb2] at h
            simp only at h
            have hsz : cs.length = size := Nat.eq_of_beq_eq_true hb1
            have hle : off + cs.length ≤ ys.length := by simpa [Nat.ble_eq] using hb2
            obtain ⟨h2, h3⟩ := cellsOf_spec hc hv
            have hl2 := h2.length
            have hly := hr.length
            have hfold := fold_put v.cells.toList 0 cells off (by simp at hl2 hly ⊢; omega)
            rw [Nat.add_zero] at hfold
            obtain ⟨cells', h4, h5, h6⟩ := fill_spec hpl (cells := v.cells.zipIdx.foldl (fun cs (p : Value × Nat) => cs.setIfInBounds (off + p.2) p.1) cells) h
              (by
                have : (v.cells.zipIdx.foldl (fun cs (p : Value × Nat) => cs.setIfInBounds (off + p.2) p.1) cells).toList = putC cells.toList off v.cells.toList := by
                  rw [← hfold, ← Array.foldl_toList, Array.toList_zipIdx]
                rw [this]; exact hr.putC h2 off)
              (by
                have : (v.cells.zipIdx.foldl (fun cs (p : Value × Nat) => cs.setIfInBounds (off + p.2) p.1) cells).toList = putC cells.toList off v.cells.toList := by
                  rw [← hfold, ← Array.foldl_toList, Array.toList_zipIdx]
                rw [this]; exact ones_putC h1 h3 off)
              (by simpa using hl) (fun i k x u hx hu => hp (i + 1) k x u (by simpa using hx) (by simpa using hu))
            refine ⟨cells', ?_, h5, h6⟩
            simp only [Instr.fill, hpl _ _ hq]
            rw [if_neg (by simp at hl2 hly ⊢; omega)]
            exact h4
end
section
variable {P : Program} {o : Oper} {st : St}
def placesOf (P : Program) : List Field → Option (List (Nat × Nat))
  | [] => some []
  | f :: fs => match P.info? f.type, placesOf P fs with | some i, some ps => some ((f.offset, i.size) :: ps) | _, _ => none
theorem places_run : ∀ {fs : List Field} {ps : List (Nat × Nat)} (w : World), placesOf P fs = some ps → (fs.mapM (fun f : Field => (do pure (f.offset, ← sizeOf f.type) : Sem (Nat × Nat)))).run P w = .ok ps w
  | [], ps, w, h => by simp only [placesOf, Option.some.injEq] at h; subst h; simp
  | f :: fs, ps, w, h => by
    simp only [placesOf] at h
    cases hi : P.info? f.type with
    | none => rw [hi] at h; simp at h
    | some i =>
      cases hr : placesOf P fs with
      | none => rw [hi, hr] at h; simp at h
      | some qs =>
        rw [hi, hr] at h; simp only [Option.some.injEq] at h; subst h
        rw [List.mapM_cons]
        have hsz : (sizeOf f.type).run P w = .ok i.size w := info_of hi w
        simp only [Sem.run_bind, hsz, Result.andThen_ok, Sem.run_pure, places_run w hr]
def partsA (st : St) (parts : List (Nat × Operand)) : List (Nat × A) := parts.map fun p => (p.1, opA st p.2)
def partLocs (parts : List (Nat × Operand)) : List Loc := locsOf (parts.map (·.2))
theorem locs_mem : ∀ {xs : List Operand} {x : Operand}, x ∈ xs → ∀ l ∈ locOf x, l ∈ locsOf xs
  | y :: ys, x, hx, l, hl => by
    rcases List.mem_cons.1 hx with rfl | hx
    · simp [locsOf, hl]
    · simp [locsOf, locs_mem hx l hl]
theorem parts_reps {st' : St} {parts : List (Nat × Operand)} {R : List Loc} (hR : ∀ l ∈ partLocs parts, l ∈ R) (hag : ∀ l ∈ R, st'.at l = st.at l) {cx : Cx} {m : Mp} {S : Nat → Prop} {a : Act} {w : World} (hs : Sim cx m S a w st') :
    ∀ (i k : Nat) (x : A) (v : Nat × Value), (partsA st parts)[i]? = some (k, x) → (parts.map fun p => (p.1, a.eval p.2))[i]? = some v → v.1 = k ∧ Rep m S w x v.2 := by
  intro i k x v hx hv
  unfold partsA at hx
  rw [List.getElem?_map] at hx hv
  cases hi : parts[i]? with
  | none => rw [hi] at hx; cases hx
  | some p =>
    rw [hi] at hx hv; cases hx; cases hv
    exact ⟨rfl, op_rep rfl (fun l hl => hR l (locs_mem (List.mem_map.2 ⟨p, List.mem_of_getElem? hi, rfl⟩) l hl)) hag hs⟩
theorem op_build {t : TypeId} {parts : List (Nat × Operand)} {fs : Array Field} {place : List (Nat × Nat)} {zs ys : List A} (ho : o.op = .build t parts.toArray) (hu : P.underlying t = some (.struct fs)) (hp : placesOf P fs.toList = some place) (hz : zeroA P t = some zs)
    (hf : fillA place zs (partsA st parts) = some ys) : OpRun P o st (partLocs parts) (.agg ys) [] := by
  refine .pure fun st' hag cx m S a w hs => ?_
  obtain ⟨i, z, hi, hzz, h1, rfl⟩ := zeroA_spec hz
  have hpl : (fs.mapM (fun f : Field => (do pure (f.offset, ← sizeOf f.type) : Sem (Nat × Nat)))).run P w = .ok place.toArray w := by
    have : fs = fs.toList.toArray := by simp
    rw [this, List.mapM_toArray]
    simp only [Sem.run_map, places_run w hp, Result.andThen_ok]
  obtain ⟨cells, h2, h3, h4⟩ := fill_spec (m := m) (S := S) (w := w) (pl := fun i => place.toArray[i]?) (fun i q h => by simpa using h) (vparts := parts.map fun p => (p.1, a.eval p.2)) hf (litAs_rep z.cells.toList) h1 (by simp [partsA]) (parts_reps (fun _ h => h) hag hs)
  refine ⟨.agg cells, ?_, by simp only [Rep]; exact ⟨_, rfl, h3⟩⟩
  have e : (parts.toArray.map fun p : Nat × Operand => (p.1, a.eval p.2)).toList = parts.map fun p => (p.1, a.eval p.2) := by simp
  simp only [execOp, ho, Instr.build, Sem.run_bind]
  simp only [zeroValue, typeInfo, hi, hzz, Sem.run_bind, run_program, Result.andThen_ok, Sem.run_pure, run_underlying hu]
  erw [hpl]
  simp only [Result.andThen_ok]
  erw [e, h2]
  rfl
end
end Go.Proofs.Ytdpmojhejidhiaa.K
