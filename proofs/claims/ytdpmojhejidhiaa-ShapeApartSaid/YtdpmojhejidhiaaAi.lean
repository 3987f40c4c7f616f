/- The operations that read memory, and those that make and write it. -/
import Derived.Test.YtdpmojhejidhiaaAh
import Derived.Laws.AppendOwn
import Derived.Laws.AppendOwnNone
import Derived.Laws.CopyRow
import Derived.Laws.IdiomStrings
namespace Go.Proofs.Ytdpmojhejidhiaa.K
open Go.RowKit
set_option linter.unusedVariables false
set_option linter.unusedSimpArgs false

theorem info_of {P : Program} {t : TypeId} {i : TypeInfo} (h : P.info? t = some i) (w : World) : (sizeOf t).run P w = .ok i.size w := by simp [sizeOf, typeInfo, h]
/-- The cells that an address leads to, and where it stands in them. -/
def cellsAt (H : List Blk) : A → Option (List A × Nat)
  | .loc id off => match H.getD id .unborn with
    | .box xs => some (xs, off)
    | .arr _ _ _ ds => some (ds.map .d, off)
    | .fro _ _ _ ds => some (ds.map .d, off)
    | _ => none
  | .d (.ref ds) => some (ds.map .d, 0)
  | _ => none
def locA : A → List Loc
  | .loc id _ => [.blk id]
  | .own id => [.blk id]
  | .sub id _ _ => [.blk id]
  | _ => []
theorem locA_agree {st st' : St} {y : A} (h : ∀ l ∈ locA y, st'.at l = st.at l) : cellsAt st'.H y = cellsAt st.H y := by
  cases y with
  | loc id off =>
    have := blk_agree (st := st) (st' := st') (ids := [id]) (by simpa [blks, locA] using h) (id := id) (by simp)
    simp only [cellsAt, this]
  | d x => cases x <;> rfl
  | _ => rfl
def Cells (m : Mp) (S : Nat → Prop) (w : World) (p : Addr) (xs : List A) : Prop := ∀ (i : Nat) (x : A), xs[i]? = some x → ∃ u, w.cell? (p.add i) = some u ∧ u.oneCell' = true ∧ Rep m S w x u
theorem addr_add2 (p : Addr) (i j : Nat) : (p.add i).add j = p.add (i + j) := by
  unfold Addr.add
  by_cases hk : i = 0 <;> by_cases hj0 : j = 0 <;> simp [hk, hj0] <;> omega
theorem row_cells {m : Mp} {S : Nat → Prop} {w : World} {e sz n : Nat} {ds : List D} {v : Value} (h : RowOK S w e sz n ds v) {g : Nat} (hg : v.ownBlock = some g) : Cells m S w ⟨g, 0, none⟩ (ds.map .d) := by
  intro i x hx
  obtain ⟨cells, ho, hr, h1⟩ := h
  rw [List.getElem?_map] at hx
  cases hd : ds[i]? with
  | none => rw [hd] at hx; cases hx
  | some y =>
    rw [hd] at hx; cases hx
    have hil : i < cells.length := by rw [hr.1]; exact (List.getElem?_eq_some_iff.1 hd).1
    have hu : cells[i]? = some cells[i] := List.getElem?_eq_getElem hil
    refine ⟨cells[i], ho.cells hg i _ hu, h1 _ (List.mem_of_getElem? hu), ?_⟩
    simp only [Rep]
    exact hr.2 i y _ hd hu
theorem cellsAt_spec {cx : Cx} {m : Mp} {S : Nat → Prop} {w : World} {H : List Blk} (h : Hold cx m S w H) {y : A} {v : Value} {xs : List A} {off : Nat} (hc : cellsAt H y = some (xs, off)) (hv : Rep m S w y v) :
    ∃ p : Addr, v = .pointer (some (p.add off)) ∧ Cells m S w p xs := by
  cases y with
  | loc id o =>
    simp only [cellsAt] at hc
    have hok := h.ok id
    cases hb : H.getD id .unborn with
    | unborn => rw [hb] at hc; cases hc
    | gone => rw [hb] at hc; cases hc
    | box ys =>
      rw [hb] at hc hok
      cases hc
      obtain ⟨b, cells, T, h1, h2, h3, h4, h5⟩ := hok
      simp only [Rep, h1] at hv
      refine ⟨⟨b, 0, none⟩, by rw [addr_add, Nat.zero_add]; exact hv, fun i x hx => ?_⟩
      obtain ⟨u, h6, h7⟩ := h3.at i x hx
      exact ⟨u, by rw [addr_add, Nat.zero_add, cell_at h2, ← Array.getElem?_toList]; exact h6, h4 u (List.mem_of_getElem? h6), h7⟩
    | arr e sz n ds =>
      rw [hb] at hc hok
      cases hc
      obtain ⟨v', h1, h2, h3⟩ := hok
      simp only [Rep, h1] at hv
      obtain ⟨g, hg, rfl⟩ := hv
      exact ⟨⟨g, 0, none⟩, by rw [addr_add, Nat.zero_add], row_cells h2 hg⟩
    | fro e sz n ds =>
      rw [hb] at hc hok
      cases hc
      obtain ⟨v', h1, h2, h3⟩ := hok
      simp only [Rep, h1] at hv
      obtain ⟨g, hg, rfl⟩ := hv
      exact ⟨⟨g, 0, none⟩, by rw [addr_add, Nat.zero_add], row_cells h2 hg⟩
  | d x =>
    cases x with
    | ref ds =>
      simp only [cellsAt] at hc
      cases hc
      simp only [Rep, RepD] at hv
      obtain ⟨a, rfl, h1⟩ := hv
      refine ⟨a, by simp [Addr.add], fun i x hx => ?_⟩
      rw [List.getElem?_map] at hx
      cases hd : ds[i]? with
      | none => rw [hd] at hx; cases hx
      | some y =>
        rw [hd] at hx; cases hx
        obtain ⟨p, u, hp, h2, h3, h4, h5⟩ := RepDs.at ds _ 0 h1 i y hd
        cases hp
        rw [Nat.zero_add] at h2
        exact ⟨u, h2, h4, by simp only [Rep]; exact h5⟩
    | nil => cases hc
    | lit v => cases hc
    | sl n cs => cases hc
    | slc n cs => cases hc
  | _ => cases hc
theorem run_loadC {P : Program} {t : TypeId} {xs : List A} {off : Nat} {x : A} (h : loadA P t xs off = some x) {m : Mp} {S : Nat → Prop} {w : World} {p : Addr} (hc : Cells m S w p xs) :
    ∃ v, (loadVar t (p.add off)).run P w = .ok v w ∧ Rep m S w x v := by
  have scalar : xs[off]? = some x → ∃ v, w.cell? (p.add off) = some v ∧ Rep m S w x v := fun hx => by
    obtain ⟨v, h1, _, h2⟩ := hc off x hx
    exact ⟨v, h1, h2⟩
  have aggr : ∀ (i : TypeInfo), P.info? t = some i → (match Nat.ble (off + i.size) xs.length with | true => some (A.agg ((xs.drop off).take i.size)) | false => none) = some x →
      ∃ v, (do pure (Value.agg (← loadCells (p.add off) (← sizeOf t))) : Sem Value).run P w = .ok v w ∧ Rep m S w x v := fun i hi hx => by
    cases hble : Nat.ble (off + i.size) xs.length with
    | false => rw [hble] at hx; cases hx
    | true =>
      rw [hble] at hx
      simp only [Option.some.injEq] at hx
      subst hx
      have hle : off + i.size ≤ xs.length := by simpa [Nat.ble_eq] using hble
      -- the cells
      have hget : ∀ j, j < i.size → ∃ u, w.cell? (p.add (off + j)) = some u ∧ Rep m S w (xs[off + j]?.getD .top) u := fun j hj => by
        obtain ⟨u, h1, _, h2⟩ := hc (off + j) _ (List.getElem?_eq_getElem (by omega))
        exact ⟨u, h1, by rw [List.getElem?_eq_getElem (by omega : off + j < xs.length)]; exact h2⟩
      obtain ⟨f, hf⟩ : ∃ f : Nat → Value, ∀ j, j < i.size → w.cell? (p.add (off + j)) = some (f j) ∧ Rep m S w (xs[off + j]?.getD .top) (f j) :=
        ⟨fun j => if hj : j < i.size then Classical.choose (hget j hj) else undef, fun j hj => by simp only [hj, dif_pos]; exact Classical.choose_spec (hget j hj)⟩
      have hld := run_loadCells_list (P := P) (w := w) (p.add off) ((List.range i.size).map f) (fun j v hj => by
        rw [List.getElem?_map] at hj
        cases hr : (List.range i.size)[j]? with
        | none => rw [hr] at hj; cases hj
        | some k =>
          rw [hr] at hj; cases hj
          obtain ⟨hjl, hk⟩ := List.getElem?_eq_some_iff.1 hr
          simp at hk hjl
          subst hk
          rw [addr_add2]; exact (hf j hjl).1)
      rw [List.length_map, List.length_range] at hld
      refine ⟨.agg ((List.range i.size).map f).toArray, by simp [sizeOf, typeInfo, hi, hld], ?_⟩
      simp only [Rep]
      refine ⟨_, rfl, Reps.of (by simp; omega) fun j y v hy hv => ?_⟩
      rw [List.getElem?_take] at hy
      split at hy
      · rename_i hj
        rw [List.getElem?_drop] at hy
        have h1 := (hf j hj).2
        rw [hy] at h1
        rw [List.getElem?_map, List.getElem?_range hj] at hv
        cases hv
        exact h1
      · cases hy
  unfold loadA at h
  cases hu : P.underlying t with
  | none => rw [hu] at h; cases h
  | some d =>
    rw [hu] at h
    have key : ∀ (agg : Bool), (isAgg t).run P w = .ok agg w → (loadVar t (p.add off)).run P w = if agg then (do pure (Value.agg (← loadCells (p.add off) (← sizeOf t))) : Sem Value).run P w else (load (p.add off)).run P w := fun agg h => by
      unfold loadVar
      simp only [Sem.run_bind, h, Result.andThen_ok]
      cases agg <;> simp
    cases d with
    | struct fs =>
      rw [key true (by simp [isAgg, underlying, hu])]
      simp only at h
      cases hi : P.info? t with
      | none => rw [hi] at h; cases h
      | some i => rw [hi] at h; exact aggr i hi h
    | array n e =>
      rw [key true (by simp [isAgg, underlying, hu])]
      simp only at h
      cases hi : P.info? t with
      | none => rw [hi] at h; cases h
      | some i => rw [hi] at h; exact aggr i hi h
    | _ =>
      rw [key false (by simp [isAgg, underlying, hu])]
      simp only at h
      obtain ⟨v, h1, h2⟩ := scalar h
      exact ⟨v, by simp [h1], h2⟩

section
variable {P : Program} {o : Oper} {st : St}
theorem op_load {t : TypeId} {x : Operand} {y : A} {xs : List A} {off : Nat} {z : A} (ho : o.op = .load t x) (hy : opA st x = y) (hc : cellsAt st.H y = some (xs, off)) (hl : loadA P t xs off = some z) :
    OpRun P o st (locOf x ++ locA y) z [] := by
  refine .pure fun st' hag cx m S a w hs => ?_
  have hr := op_rep hy (R := locOf x ++ locA y) (fun l h => by simp [h]) hag hs
  rw [← locA_agree fun l h => hag l (by simp [h])] at hc
  obtain ⟨p, hp, hcells⟩ := cellsAt_spec hs.hold hc hr
  obtain ⟨v, h1, h2⟩ := run_loadC hl hcells
  exact ⟨v, by simp [execOp, ho, Instr.loadAt, Instr.sureAddr, hp, h1], h2⟩
/-- How many cells a struct or an array has. -/
def aggSize (P : Program) (t : TypeId) : Option Nat := match P.underlying t with
  | some (.struct _) | some (.array _ _) => (P.info? t).map (·.size)
  | _ => none
def scalarT (P : Program) (t : TypeId) : Bool := match P.underlying t with
  | some (.struct _) | some (.array _ _) | none => false
  | some _ => true
theorem loadA_agg {t : TypeId} {xs zs : List A} {off : Nat} (hk : aggSize P t = some zs.length) (hle : off + zs.length ≤ xs.length) (hz : (xs.drop off).take zs.length = zs) : loadA P t xs off = some (.agg zs) := by
  unfold aggSize at hk
  unfold loadA
  have key : ∀ i : Option TypeInfo, i.map (·.size) = some zs.length → (match i with | some i => (match Nat.ble (off + i.size) xs.length with | true => some (A.agg ((xs.drop off).take i.size)) | false => none) | none => none) = some (.agg zs) := fun i hi => by
    cases i with
    | none => cases hi
    | some i =>
      simp only [Option.map_some, Option.some.injEq] at hi
      have hb' : Nat.ble (off + zs.length) xs.length = true := by rw [Nat.ble_eq]; omega
      simp only [hi, hb', hz]
  cases hu : P.underlying t with
  | none => rw [hu] at hk; cases hk
  | some d => cases d <;> simp only [hu] at hk ⊢ <;> first | exact key _ hk | cases hk
theorem loadA_scalar {t : TypeId} {xs : List A} {off : Nat} (hs : scalarT P t = true) : loadA P t xs off = xs[off]? := by
  unfold scalarT at hs
  unfold loadA
  cases hu : P.underlying t with
  | none => rw [hu] at hs; cases hs
  | some d => cases d <;> simp only [hu] at hs ⊢ <;> cases hs
/-- The same where the cells are named one by one. -/
theorem op_load_of {t : TypeId} {x : Operand} {y : A} {xs : List A} {off : Nat} (zs : List A) (ho : o.op = .load t x) (hy : opA st x = y) (hc : cellsAt st.H y = some (xs, off))
    (hk : aggSize P t = some zs.length) (hle : off + zs.length ≤ xs.length) (hz : (xs.drop off).take zs.length = zs) : OpRun P o st (locOf x ++ locA y) (.agg zs) [] := op_load ho hy hc (loadA_agg hk hle hz)
theorem op_load_at {t : TypeId} {x : Operand} {y : A} {xs : List A} {off : Nat} (z : A) (ho : o.op = .load t x) (hy : opA st x = y) (hc : cellsAt st.H y = some (xs, off)) (hs : scalarT P t = true) (hz : xs[off]? = some z) : OpRun P o st (locOf x ++ locA y) z [] :=
  op_load ho hy hc (by rw [loadA_scalar hs]; exact hz)

/-! ### addresses -/
def fieldOff (P : Program) (t : TypeId) (f : Nat) : Option Nat := match P.underlying t with
  | some (.struct fs) => match fs[f]? with
    | some q => match P.info? q.type with
      | some i => match i.size with | 0 => none | _ + 1 => some q.offset
      | none => none
    | none => none
  | _ => none
/-- An address so many cells further. -/
def addA (k : Nat) : A → A
  | .loc id off => .loc id (off + k)
  | .d (.ref ds) => .d (.ref (ds.drop k))
  | _ => .top
def isPtr : A → Bool
  | .loc _ _ => true
  | .d (.ref _) => true
  | _ => false
theorem addA_rep {cx : Cx} {m : Mp} {S : Nat → Prop} {w : World} {H : List Blk} (h : Hold cx m S w H) {y : A} {v : Value} (hr : Rep m S w y v) (hy : cellsAt H y ≠ none) (k : Nat) : ∃ p, v = .pointer (some p) ∧ Rep m S w (addA k y) (.pointer (some (p.add k))) := by
  cases hc : cellsAt H y with
  | none => exact absurd hc hy
  | some q =>
    obtain ⟨xs, off⟩ := q
    cases y with
    | loc id o =>
      have h1 := cellsAt_spec h hc hr
      simp only [Rep, addA] at hr ⊢
      cases hm : m id with
      | none => rw [hm] at hr; exact hr.elim
      | some p =>
        rw [hm] at hr
        cases p with
        | gone => obtain ⟨p, hp, _⟩ := h1; exact ⟨_, hp, rfl⟩
        | box b => exact ⟨_, hr, by rw [addr_add]⟩
        | arr v' => obtain ⟨g, hg, he⟩ := hr; exact ⟨_, he, g, hg, by rw [addr_add]⟩
    | d x =>
      cases x with
      | ref ds =>
        simp only [Rep, RepD, addA] at hr ⊢
        obtain ⟨a, rfl, h1⟩ := hr
        exact ⟨a, rfl, _, rfl, h1.drop k⟩
      | nil => cases hc
      | lit v => cases hc
      | sl n cs => cases hc
      | slc n cs => cases hc
    | _ => cases hc
theorem op_faddr {t : TypeId} {x : Operand} {f k : Nat} {y : A} (ho : o.op = .fieldAddr t x f) (hy : opA st x = y) (hc : (cellsAt st.H y).isSome = true) (hf : fieldOff P t f = some k) : OpRun P o st (locOf x ++ locA y) (addA k y) [] := by
  refine .pure fun st' hag cx m S a w hs => ?_
  have hr := op_rep hy (R := locOf x ++ locA y) (fun l h => by simp [h]) hag hs
  rw [← locA_agree fun l h => hag l (by simp [h])] at hc
  obtain ⟨p, hp, h2⟩ := addA_rep hs.hold hr (by cases h : cellsAt st'.H y <;> simp_all) k
  refine ⟨_, ?_, h2⟩
  unfold fieldOff at hf
  cases hu : P.underlying t with
  | none => rw [hu] at hf; cases hf
  | some d =>
    cases d with
    | struct fs =>
      rw [hu] at hf
      simp only at hf
      cases hq : fs[f]? with
      | none => rw [hq] at hf; cases hf
      | some q =>
        rw [hq] at hf
        simp only at hf
        cases hi : P.info? q.type with
        | none => rw [hi] at hf; cases hf
        | some i =>
          rw [hi] at hf
          cases hz : i.size with
          | zero => simp only [hz] at hf; cases hf
          | succ z =>
            simp only [hz, Option.some.injEq] at hf
            subst hf
            simp [execOp, ho, Instr.fieldAt, run_underlying hu, hq, Instr.sureAddr, hp, fieldPlace, sizeOf, typeInfo, hi, hz]
    | _ => rw [hu] at hf; cases hf
/-- What a slice reads as: its cells from a place on, and its length. -/
def sliceAt (H : List Blk) : A → Option (List D × Nat × Nat)
  | .own id => match H.getD id .unborn with
    | .arr _ _ n ds => some (ds, 0, n)
    | .fro _ _ n ds => some (ds, 0, n)
    | _ => none
  | .sub id off n => match H.getD id .unborn with
    | .arr _ _ _ ds => some (ds, off, n)
    | .fro _ _ _ ds => some (ds, off, n)
    | _ => none
  | .d (.sl n ds) => some (ds, 0, n)
  | .d .nil => some ([], 0, 0)
  | _ => none
theorem sliceA_agree {st st' : St} {y : A} (h : ∀ l ∈ locA y, st'.at l = st.at l) : sliceAt st'.H y = sliceAt st.H y := by
  cases y with
  | own id =>
    have := blk_agree (st := st) (st' := st') (ids := [id]) (by simpa [blks, locA] using h) (id := id) (by simp)
    simp only [sliceAt, this]
  | sub id off n =>
    have := blk_agree (st := st) (st' := st') (ids := [id]) (by simpa [blks, locA] using h) (id := id) (by simp)
    simp only [sliceAt, this]
  | d x => cases x <;> rfl
  | _ => rfl
def CellsD (S : Nat → Prop) (w : World) (a : Option Addr) (off : Nat) (ds : List D) : Prop := ∀ (i : Nat) (x : D), ds[off + i]? = some x → ∃ p u, a = some p ∧ w.cell? (p.add i) = some u ∧ u.oneCell' = true ∧ RepD S w x u
theorem rowD {S : Nat → Prop} {w : World} {e sz n : Nat} {ds : List D} {v : Value} (h : RowOK S w e sz n ds v) {g : Nat} (hg : v.ownBlock = some g) (off : Nat) : CellsD S w (some ⟨g, off, none⟩) off ds := by
  intro i x hx
  obtain ⟨u, h1, h2, h3⟩ := row_cells (m := fun _ => none) h hg (off + i) (.d x) (by rw [List.getElem?_map, hx]; rfl)
  rw [addr_add, Nat.zero_add] at h1
  exact ⟨_, u, rfl, by rw [addr_add]; exact h1, h2, by simpa only [Rep] using h3⟩
theorem row_slice {S : Nat → Prop} {w : World} {e sz n : Nat} {ds : List D} {v : Value} (h : RowOK S w e sz n ds v) : ∃ a cap, v = .slice a n cap ∧ n ≤ cap ∧ cap ≤ maxLen ∧ (a = none → n = 0 ∧ cap = 0) ∧ CellsD S w a 0 ds ∧ (∀ p, a = some p → ∃ g, p = ⟨g, 0, none⟩ ∧ v.ownBlock = some g) := by
  have h' := h
  obtain ⟨cells, ⟨hl, ⟨rfl, rfl⟩ | ⟨g, cap, cur, rfl, _, hh, hn, hm, hs, ht⟩⟩, hr, h1⟩ := h
  · have : ds = [] := List.eq_nil_of_length_eq_zero (by rw [← hr.1, hl]; simp)
    subst this
    exact ⟨none, 0, rfl, Nat.le_refl _, Nat.zero_le _, fun _ => ⟨rfl, rfl⟩, fun i x hx => by simp at hx, fun p hp => by cases hp⟩
  · exact ⟨_, cap, rfl, hn, hm, (fun h => by cases h), rowD h' rfl 0, fun p hp => ⟨g, by cases hp; rfl, rfl⟩⟩
theorem sliceAt_spec {cx : Cx} {m : Mp} {S : Nat → Prop} {w : World} {H : List Blk} (h : Hold cx m S w H) {y : A} {v : Value} {ds : List D} {off n : Nat} (hc : sliceAt H y = some (ds, off, n)) (hv : Rep m S w y v) :
    ∃ a cap, v = .slice a n cap ∧ n ≤ cap ∧ cap ≤ maxLen ∧ (a = none → n = 0 ∧ cap = 0) ∧ CellsD S w a off ds := by
  cases y with
  | own id =>
    simp only [sliceAt] at hc
    have hok := h.ok id
    split at hc
    · rename_i e sz n' ds' hb
      cases hc
      rw [hb] at hok
      obtain ⟨v', h1, h2, h3⟩ := hok
      simp only [Rep, h1] at hv
      obtain ⟨rfl, _⟩ := hv
      obtain ⟨a, cap, h4, h5, h6, h7, h8, _⟩ := row_slice h2
      exact ⟨a, cap, h4, h5, h6, h7, h8⟩
    · rename_i e sz n' ds' hb
      cases hc
      rw [hb] at hok
      obtain ⟨v', h1, h2, h3⟩ := hok
      simp only [Rep, h1] at hv
      obtain ⟨rfl, _⟩ := hv
      obtain ⟨a, cap, h4, h5, h6, h7, h8, _⟩ := row_slice h2
      exact ⟨a, cap, h4, h5, h6, h7, h8⟩
    · cases hc
  | sub id o n' =>
    simp only [sliceAt] at hc
    have hok := h.ok id
    split at hc
    · rename_i e sz n' ds' hb
      cases hc
      rw [hb] at hok
      obtain ⟨v', h1, h2, h3⟩ := hok
      simp only [Rep, h1] at hv
      obtain ⟨g, cap, hg, rfl, h4, h5⟩ := hv
      exact ⟨_, cap, rfl, h4, h5, (fun h => by cases h), rowD h2 hg _⟩
    · rename_i e sz n' ds' hb
      cases hc
      rw [hb] at hok
      obtain ⟨v', h1, h2, h3⟩ := hok
      simp only [Rep, h1] at hv
      obtain ⟨g, cap, hg, rfl, h4, h5⟩ := hv
      exact ⟨_, cap, rfl, h4, h5, (fun h => by cases h), rowD h2 hg _⟩
    · cases hc
  | d x =>
    cases x with
    | sl n' cs =>
      simp only [sliceAt] at hc
      cases hc
      simp only [Rep, RepD] at hv
      obtain ⟨a, cap, h1, h2, h3, h4, h5⟩ := hv
      refine ⟨a, cap, h1, h2, h3, h4, fun i x hx => ?_⟩
      obtain ⟨p, u, h6, h7, h8, h9, h10⟩ := RepDs.at ds a 0 h5 i x (by simpa using hx)
      exact ⟨p, u, h6, by simpa using h7, h9, h10⟩
    | nil =>
      simp only [sliceAt] at hc
      cases hc
      simp only [Rep, RepD] at hv
      subst hv
      exact ⟨none, 0, rfl, Nat.le_refl _, Nat.zero_le _, fun _ => ⟨rfl, rfl⟩, fun i x hx => by simp at hx⟩
    | lit v => cases hc
    | ref cs => cases hc
    | slc n cs => cases hc
  | _ => cases hc
theorem slice_bound {cx : Cx} {m : Mp} {S : Nat → Prop} {w : World} {H : List Blk} (h : Hold cx m S w H) {y : A} {v : Value} {ds : List D} {off n : Nat} (hc : sliceAt H y = some (ds, off, n)) (hv : Rep m S w y v) : n ≤ maxLen := by
  obtain ⟨a, cap, _, h1, h2, _⟩ := sliceAt_spec h hc hv
  omega
/-- The address of an element. -/
def elemA (k : Nat) : A → A
  | .own id => .loc id k
  | .sub id off _ => .loc id (off + k)
  | .d (.sl _ ds) => .d (.ref (ds.drop k))
  | _ => .top
def sliceElem (P : Program) (t : TypeId) : Option (TypeId × Nat) := match P.underlying t with
  | some (.slice e) => (P.info? e).map fun i => (e, i.size)
  | _ => none
theorem sliceElem_spec {t e sz : Nat} (h : sliceElem P t = some (e, sz)) : P.underlying t = some (.slice e) ∧ ∃ i, P.info? e = some i ∧ i.size = sz := by
  unfold sliceElem at h
  cases hu : P.underlying t with
  | none => rw [hu] at h; cases h
  | some d =>
    rw [hu] at h
    cases d with
    | slice e' =>
      simp only at h
      cases hi : P.info? e' with
      | none => rw [hi] at h; cases h
      | some i => rw [hi] at h; cases h; exact ⟨rfl, i, hi, rfl⟩
    | _ => cases h
theorem elemA_rep {cx : Cx} {m : Mp} {S : Nat → Prop} {w : World} {H : List Blk} (h : Hold cx m S w H) {y : A} {v : Value} {ds : List D} {off n : Nat} (hc : sliceAt H y = some (ds, off, n)) (hv : Rep m S w y v) (hn : 0 < n) (k : Nat) :
    ∃ p cap, v = .slice (some p) n cap ∧ Rep m S w (elemA k y) (.pointer (some (p.add k))) := by
  obtain ⟨a, cap, rfl, h1, h2, h3, h4⟩ := sliceAt_spec h hc hv
  cases a with
  | none => have := (h3 rfl).1; omega
  | some p =>
    refine ⟨p, cap, rfl, ?_⟩
    cases y with
    | own id =>
      simp only [Rep, elemA] at hv ⊢
      have hok := h.ok id
      simp only [sliceAt] at hc
      split at hc
      · rename_i e sz n' ds' hb
        cases hc
        rw [hb] at hok
        obtain ⟨v', h5, h6, _⟩ := hok
        rw [h5] at hv ⊢
        simp only at hv ⊢
        replace hv := hv.1
        obtain ⟨a, cap', h7, _, _, _, _, h8⟩ := row_slice h6
        rw [← hv] at h7 h8
        simp only [Value.slice.injEq] at h7
        obtain ⟨g, h9, h10⟩ := h8 p h7.1.symm
        subst h9
        exact ⟨g, by rw [← hv]; exact h10, by rw [addr_add, Nat.zero_add]⟩
      · rename_i e sz n' ds' hb
        cases hc
        rw [hb] at hok
        obtain ⟨v', h5, h6, _⟩ := hok
        rw [h5] at hv ⊢
        simp only at hv ⊢
        replace hv := hv.1
        obtain ⟨a, cap', h7, _, _, _, _, h8⟩ := row_slice h6
        rw [← hv] at h7 h8
        simp only [Value.slice.injEq] at h7
        obtain ⟨g, h9, h10⟩ := h8 p h7.1.symm
        subst h9
        exact ⟨g, by rw [← hv]; exact h10, by rw [addr_add, Nat.zero_add]⟩
      · cases hc
    | sub id o n' =>
      simp only [Rep, elemA] at hv ⊢
      cases hm : m id with
      | none => rw [hm] at hv; exact hv.elim
      | some q =>
        rw [hm] at hv
        cases q with
        | gone => rfl
        | box b => exact hv.elim
        | arr v' =>
          obtain ⟨g, cap', hg, he, _⟩ := hv
          simp only [Value.slice.injEq, Option.some.injEq] at he
          obtain ⟨rfl, _, _⟩ := he
          exact ⟨g, hg, by rw [addr_add]⟩
    | d x =>
      cases x with
      | sl n' cs =>
        simp only [Rep, RepD, elemA] at hv ⊢
        obtain ⟨a, cap', h5, _, _, _, h6⟩ := hv
        simp only [Value.slice.injEq] at h5
        rw [← h5.1] at h6
        exact ⟨_, rfl, h6.drop k⟩
      | nil => simp only [sliceAt] at hc; cases hc; omega
      | lit v => cases hc
      | ref cs => cases hc
      | slc n cs => cases hc
    | _ => cases hc
theorem op_iaddr {t e sz : Nat} {x ix : Operand} {y : A} {ds : List D} {off n i : Nat} {k : IntKind} {iv : Int} (ho : o.op = .indexAddr t x ix) (hy : opA st x = y) (hc : sliceAt st.H y = some (ds, off, n)) (he : sliceElem P t = some (e, sz))
    (hi : opA st ix = .d (.lit (.int k iv))) (hiv : iv = (i : Int)) (hin : i < n) : OpRun P o st (locsOf [x, ix] ++ locA y) (elemA (i * sz) y) [] := by
  refine .pure fun st' hag cx m S a w hs => ?_
  have hr := op_rep hy (R := locsOf [x, ix] ++ locA y) (fun l h => by simp [locsOf, h]) hag hs
  have hix := op_lit hi (R := locsOf [x, ix] ++ locA y) (fun l h => by simp [locsOf, h]) hag hs
  rw [← sliceA_agree fun l h => hag l (by simp [h])] at hc
  obtain ⟨p, cap, hv, hrep⟩ := elemA_rep hs.hold hc hr (by omega) (i * sz)
  obtain ⟨hu, inf, hinf, hsz⟩ := sliceElem_spec he
  refine ⟨_, ?_, hrep⟩
  subst hiv
  have h0 : (0 : Int) ≤ i ∧ (i : Int) < n := by omega
  simp [execOp, ho, Instr.indexAt, hix, asIntOf, run_underlying hu, hv, sizeOf, typeInfo, hinf, hsz, hin]
end
end Go.Proofs.Ytdpmojhejidhiaa.K
