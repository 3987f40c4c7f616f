/- More operations: equality of arrays and of structs within structs; slices of nil; a row's mark ([]byte(text)); zeros appended to nil; an array's cells as a slice. -/
import Derived.Test.YtdpmojhejidhiaaLg
import Derived.ChangeKeysEq
import Derived.Lib.AppendZeros
namespace Go.Proofs.Ytdpmojhejidhiaa.K
open Go.RowKit Go.Lib
set_option linter.unusedVariables false
set_option linter.unusedSimpArgs false

/-! ### equality of whatever is plain cells -/
section
variable {P : Program}
def partW (P : Program) (t : TypeId) (xs : List Value) (off : Nat) : Option Value := match P.underlying t with
  | some (.struct _) => (match P.info? t with | some i => some (.agg ((xs.drop off).take i.size).toArray) | none => none)
  | some (.array _ _) => (match P.info? t with | some i => some (.agg ((xs.drop off).take i.size).toArray) | none => none)
  | some _ => xs[off]?
  | none => none
theorem extract_eq (xs : List Value) (a n : Nat) : xs.toArray.extract a (a + n) = ((xs.drop a).take n).toArray := by
  apply Array.ext'
  rw [Array.toList_extract]
  simp [List.extract]
theorem partW_run {t : TypeId} {xs : List Value} {off : Nat} {v : Value} (h : partW P t xs off = some v) (w : World) : (part t xs.toArray off).run P w = .ok v w := by
  unfold partW at h
  cases hu : P.underlying t with
  | none => rw [hu] at h; cases h
  | some d =>
    rw [hu] at h
    cases d with
    | struct fs =>
      simp only at h
      cases hi : P.info? t with
      | none => rw [hi] at h; cases h
      | some i => rw [hi] at h; cases h; simp [part, isAgg, run_underlying hu, sizeOf, typeInfo, hi, extract_eq]
    | array n e =>
      simp only at h
      cases hi : P.info? t with
      | none => rw [hi] at h; cases h
      | some i => rw [hi] at h; cases h; simp [part, isAgg, run_underlying hu, sizeOf, typeInfo, hi, extract_eq]
    | _ => simp only at h; simp [part, isAgg, run_underlying hu, h]
def eqFs (P : Program) (g : TypeId → Value → Value → Option Bool) (xs ys : List Value) : List Field → Option Bool
  | [] => some true
  | f :: fs => match decide (f.name ≠ "_"), partW P f.type xs f.offset, partW P f.type ys f.offset with
    | true, some a, some b => match g f.type a b, eqFs P g xs ys fs with
      | some r, some s => some (r && s)
      | _, _ => none
    | _, _, _ => none
def eqIs (P : Program) (g : TypeId → Value → Value → Option Bool) (e c : Nat) (xs ys : List Value) : List Nat → Option Bool
  | [] => some true
  | i :: is => match partW P e xs (i * c), partW P e ys (i * c) with
    | some a, some b => match g e a b, eqIs P g e c xs ys is with
      | some r, some s => some (r && s)
      | _, _ => none
    | _, _ => none
def eqD (P : Program) : Nat → TypeId → Value → Value → Option Bool
  | 0, _, _, _ => none
  | d + 1, t, a, b => match P.underlying t with
    | some (.struct fs) => (match a, b, P.stoodInHeld t with
      | .agg xs, .agg ys, false => eqFs P (eqD P d) xs.toList ys.toList fs.toList
      | _, _, _ => none)
    | some (.array n e) => (match a, b, P.info? e with
      | .agg xs, .agg ys, some i => eqIs P (eqD P d) e i.size xs.toList ys.toList (List.range n)
      | _, _, _ => none)
    | _ => scalEq P t a b
theorem eqFs_run {g : TypeId → Value → Value → Option Bool} {d : Nat} (hg : ∀ t a b r, g t a b = some r → ∀ w, (Op.equalIn d t a b).run P w = .ok r w) {xs ys : List Value} (w : World) : ∀ {fs : List Field} {r : Bool}, eqFs P g xs ys fs = some r → (Op.eqFields d xs.toArray ys.toArray fs).run P w = .ok r w
  | [], r, h => by cases h; simp [Op.eqFields]
  | f :: fs, r, h => by
    unfold eqFs at h
    split at h
    · next a b hn ha hb =>
      split at h
      · next q s hq hs =>
        cases h
        have ih := eqFs_run hg w hs
        simp only [Op.eqFields, if_pos (of_decide_eq_true hn), Sem.run_bind, partW_run ha, partW_run hb, Result.andThen_ok, hg _ _ _ _ hq]
        cases q
        · simp
        · simp [ih]
      · cases h
    · cases h
theorem eqIs_run {g : TypeId → Value → Value → Option Bool} {d e c : Nat} (hg : ∀ t a b r, g t a b = some r → ∀ w, (Op.equalIn d t a b).run P w = .ok r w) {xs ys : List Value} (w : World) : ∀ {is : List Nat} {r : Bool}, eqIs P g e c xs ys is = some r → (Op.eqItems d e c xs.toArray ys.toArray is).run P w = .ok r w
  | [], r, h => by cases h; simp [Op.eqItems]
  | i :: is, r, h => by
    unfold eqIs at h
    split at h
    · next a b ha hb =>
      split at h
      · next q s hq hs =>
        cases h
        have ih := eqIs_run hg w hs
        simp only [Op.eqItems, Sem.run_bind, partW_run ha, partW_run hb, Result.andThen_ok, hg _ _ _ _ hq]
        cases q
        · simp
        · simp [ih]
      · cases h
    · cases h
theorem eqD_run : ∀ (k : Nat) (t : TypeId) (a b : Value) (r : Bool), eqD P k t a b = some r → ∀ (d : Nat) (w : World), (Op.equalIn (d + k) t a b).run P w = .ok r w
  | 0, _, _, _, _, h, _, _ => by cases h
  | k + 1, t, a, b, r, h, d, w => by
    have ih : ∀ t a b r, eqD P k t a b = some r → ∀ w, (Op.equalIn (d + k) t a b).run P w = .ok r w := fun t a b r h w => eqD_run k t a b r h d w
    unfold eqD at h
    cases hu : P.underlying t with
    | none => rw [hu] at h; exact scalEq_run h (d + k) w
    | some ds =>
      rw [hu] at h
      cases ds with
      | struct fs =>
        simp only at h
        split at h
        · next xs ys hs =>
          have hf : P.fieldsOf t = fs := by simp [Program.fieldsOf, hu]
          rw [show d + (k + 1) = d + k + 1 from rfl, run_equalIn_struct w (d + k) t _ _ (by rw [hf]; exact hu) hs, hf]
          exact eqFs_run ih w h
        · cases h
      | array n e =>
        simp only at h
        split at h
        · next xs ys i hi =>
          rw [show d + (k + 1) = d + k + 1 from rfl, run_equalIn_array w (d + k) _ _ hu hi]
          have : P.cellsOf e = i.size := by simp [Program.cellsOf, hi]
          rw [this]
          exact eqIs_run ih w h
        · cases h
      | _ => exact scalEq_run h (d + k) w
end
section
variable {P : Program} {o : Oper} {st : St}
theorem op_eql_deep {t u : TypeId} {x y : Operand} {la lb : List A} {us vs : List Value} {r : Bool} (ho : o.op = .binOp .eql t x y u) (hx : opA st x = .agg la) (hy : opA st y = .agg lb) (h1 : litsOf la = some us) (h2 : litsOf lb = some vs) (h : eqD P 8 t (.agg us.toArray) (.agg vs.toArray) = some r) (hg : P.eqGuardType P.depth t = false) : OpRun P o st (locsOf [x, y]) (.d (.lit (.bool r))) [] := by
  refine .pure fun st' hag cx m S a w hs => ⟨.bool r, ?_, by simp only [Rep]; unfold RepD; exact ⟨rfl, rfl⟩⟩
  have e1 := op_agg_lits hx h1 (R := locsOf [x, y]) (fun l h => by simp [locsOf, h]) hag hs
  have e2 := op_agg_lits hy h2 (R := locsOf [x, y]) (fun l h => by simp [locsOf, h]) hag hs
  have k := eqD_run 8 t _ _ r h 9992 w
  simp only [execOp, ho, e1, e2, Sem.run_bind, run_eqGuard_agg w _ _ _ _ _ _ hg, Result.andThen_ok, run_eql_struct, k]
  simp
theorem op_neq_deep {t u : TypeId} {x y : Operand} {la lb : List A} {us vs : List Value} {r : Bool} (ho : o.op = .binOp .neq t x y u) (hx : opA st x = .agg la) (hy : opA st y = .agg lb) (h1 : litsOf la = some us) (h2 : litsOf lb = some vs) (h : eqD P 8 t (.agg us.toArray) (.agg vs.toArray) = some r) (hg : P.eqGuardType P.depth t = false) : OpRun P o st (locsOf [x, y]) (.d (.lit (.bool (!r)))) [] := by
  refine .pure fun st' hag cx m S a w hs => ⟨.bool (!r), ?_, by simp only [Rep]; unfold RepD; exact ⟨rfl, rfl⟩⟩
  have e1 := op_agg_lits hx h1 (R := locsOf [x, y]) (fun l h => by simp [locsOf, h]) hag hs
  have e2 := op_agg_lits hy h2 (R := locsOf [x, y]) (fun l h => by simp [locsOf, h]) hag hs
  have k := eqD_run 8 t _ _ r h 9992 w
  simp only [execOp, ho, e1, e2, Sem.run_bind, run_eqGuard_agg w _ _ _ _ _ _ hg, Result.andThen_ok, run_neq_struct, k]
  simp
/-! ### nil -/
theorem Ocn {t : TypeId} {x hi : Operand} {k : IntKind} (ho : o.op = .slice t x none (some hi) none) (he : (sliceElem P t).isSome = true) (hx : opA st x = .d .nil := by kernel_rfl) (hh : opA st hi = .d (.lit (.int k 0)) := by kernel_rfl) : OpRun P o st (locsOf [x, hi]) (.d .nil) [] := by
  refine .pure fun st' hag cx m S a w hs => ?_
  have e1 := op_rep hx (R := locsOf [x, hi]) (fun l h => by simp [locsOf, h]) hag hs
  have e2 := op_lit hh (R := locsOf [x, hi]) (fun l h => by simp [locsOf, h]) hag hs
  simp only [Rep, RepD] at e1
  obtain ⟨⟨e, sz⟩, he⟩ := Option.isSome_iff_exists.1 he
  have := run_slice (P := P) (w := w) ho he e1 (lo := none) (hi := some hi) (l := 0) (h := 0) rfl ⟨k, e2⟩ (Nat.le_refl _) (Nat.le_refl _)
  exact ⟨_, this, by simp only [Rep, RepD]; rfl⟩
/-- A part of nil. -/
theorem OcN {t : TypeId} {x : Operand} {lo hi : Option Operand} (ho : o.op = .slice t x lo hi none) (he : (sliceElem P t).isSome = true) (hlo : boundA st 0 lo 0) (hhi : boundA st 0 hi 0) (hx : opA st x = .d .nil := by kernel_rfl) : OpRun P o st (locsOf (x :: (lo.toList ++ hi.toList))) (.d .nil) [] := by
  refine .pure fun st' hag cx m S a w hs => ?_
  have e1 := op_rep hx (R := locsOf (x :: (lo.toList ++ hi.toList))) (fun l h => by simp [locsOf, h]) hag hs
  simp only [Rep, RepD] at e1
  obtain ⟨⟨e, sz⟩, he⟩ := Option.isSome_iff_exists.1 he
  have hlo' : boundV a 0 lo 0 := by
    cases lo with
    | none => exact hlo
    | some z => obtain ⟨k, v, q1, rfl⟩ := hlo; exact ⟨k, op_lit q1 (R := locsOf (x :: ((some z).toList ++ hi.toList))) (fun l h => by simp [locsOf, h]) hag hs⟩
  have hhi' : boundV a 0 hi 0 := by
    cases hi with
    | none => exact hhi
    | some z =>
      obtain ⟨k, v, q1, rfl⟩ := hhi
      refine ⟨k, op_lit q1 (R := locsOf (x :: (lo.toList ++ (some z).toList))) (fun l h => ?_) hag hs⟩
      exact locs_mem (xs := x :: (lo.toList ++ [z])) (by simp) l h
  have := run_slice (P := P) (w := w) ho he e1 (l := 0) (h := 0) hlo' hhi' (Nat.le_refl _) (Nat.le_refl _)
  exact ⟨_, this, by simp only [Rep, RepD]; rfl⟩
theorem nil_at {α : Type} {a b : Int} (h : a = (a.toNat : Int)) (h1 : a.toNat ≤ b.toNat) (h2 : b.toNat ≤ ([] : List α).length) : a = ((0 : Nat) : Int) := by simp at h2; omega
theorem nil_bt {α : Type} {b : Int} (h : b = (b.toNat : Int)) (h2 : b.toNat ≤ ([] : List α).length) : b = ((0 : Nat) : Int) := by simp at h2; omega
theorem Ocap {t e : TypeId} {x : Operand} (ho : o.op = .call ⟨.builtin .cap, #[x], #[t]⟩) (hu : P.underlying t = some (.slice e)) (hx : opA st x = .d .nil := by kernel_rfl) : OpRun P o st (locOf x) (.d (.lit (.int .i64 0))) [] := by
  refine .pure fun st' hag cx m S a w hs => ⟨.int .i64 0, ?_, by simp only [Rep]; unfold RepD; exact ⟨rfl, rfl⟩⟩
  have e1 := op_rep hx (R := locOf x) (fun l h => h) hag hs
  simp only [Rep, RepD] at e1
  simp [execOp, ho, resolve, invoke, builtin, Builtin.cap_, run_underlying hu, e1, goInt]
/-- zeros appended to nil: a new row. -/
theorem OapZ {t tn e sz by_ nid n : Nat} {z : Value} {s x : Operand} {kq kn : IntKind} {L : Int} (ho : o.op = .call ⟨.builtin .append, #[s, x], #[t, tn]⟩) (E : ElemOK P t e sz by_ z) (htn : P.underlying tn = some (.int kn)) (hone : z.cells.toList.all (·.oneCell') = true) (hL : L = (n : Int)) (h0 : 0 < n) (hn : n ≤ 1000000000) (hb : Nat.ble by_ 140000 = true := by rfl)
    (hs0 : opA st s = .d .nil := by kernel_rfl) (hx : opA st x = .d (.lit (.int kq L)) := by kernel_rfl) (hnid : st.H.getD nid .unborn = .unborn := by kernel_rfl) :
    OpRun P o st (locsOf [s, x] ++ [.blk nid]) (.own nid) [(nid, .arr e sz n (List.replicate n (z.cells.toList.map litD)).flatten)] := by
  refine .value fun st' hag cx m S a w hs => ?_
  have hnid' : st'.H.getD nid .unborn = .unborn := (blk1 (by simp) hag).trans hnid
  have e1 := op_rep hs0 (R := locsOf [s, x] ++ [.blk nid]) (fun l h => by simp [locsOf, h]) hag hs
  have e2 := op_lit hx (R := locsOf [s, x] ++ [.blk nid]) (fun l h => by simp [locsOf, h]) hag hs
  simp only [Rep, RepD] at e1
  obtain ⟨i, hi, hz, h4, h5⟩ := E.parts
  have hb' : by_ ≤ 140000 := Nat.le_of_ble_eq_true hb
  have hbytes : n * by_ ≤ 140000000000000 := Nat.le_trans (Nat.mul_le_mul hn hb') (by decide)
  have hrun := run_append_nil_zeros (P := P) w t tn o.type e i z kq kn E.slice htn hi hz n h0 (by rw [h4]; exact E.pos) (by omega) (by rw [h5]; omega)
  have hz1 := E.zs
  have h1 : ones z.cells.toList := fun v hv => List.all_eq_true.1 hone v hv
  have hge := grownCap_ge w n 0 e
  have hcm := grownCap_le_maxLen w n 0 e (by unfold maxLen; omega)
  generalize hcp : grownCap w n 0 e = cp at hge hcm hrun
  have fl : ∀ k, (Builtin.zeroCells z.cells k).toList = (List.replicate k z.cells.toList).flatten := fun k => made_flat z.cells k (by rw [hz1]; exact E.pos)
  have hflat : (Builtin.zeroCells z.cells n ++ Builtin.zeroCells z.cells (cp - n)).toList = (List.replicate cp z.cells.toList).flatten := by
    rw [Array.toList_append, fl, fl, ← List.flatten_append, List.replicate_append_replicate]
    congr 2; omega
  have hmem : ∀ v ∈ (List.replicate n z.cells.toList).flatten, v.oneCell' = true := fun v hv => by
    obtain ⟨l, hl, hv⟩ := List.mem_flatten.1 hv
    rw [(List.mem_replicate.1 hl).2] at hv
    exact h1 v hv
  have hlen : (Builtin.zeroCells z.cells n ++ Builtin.zeroCells z.cells (cp - n)).size = cp * sz := by
    rw [Array.size_append, size_zeroCells, size_zeroCells, hz1, ← Nat.add_mul]; congr 1; omega
  have hul : (List.replicate n z.cells.toList).flatten.length = n * sz := by rw [List.length_flatten, List.map_replicate, List.sum_replicate_nat, Array.length_toList, hz1]
  have hd := hs.hold.drew
  obtain ⟨m', k1, k2, k3, k4⟩ := hold_row (e := e) (sz := sz) (n := n) (cap := cp) (ds := (List.replicate n (z.cells.toList.map litD)).flatten) (us := (List.replicate n z.cells.toList).flatten) (cur := Builtin.zeroCells z.cells n ++ Builtin.zeroCells z.cells (cp - n)) hd hnid'
    ⟨by rw [List.length_flatten, List.length_flatten, List.map_replicate, List.map_replicate, List.length_map], fun j x v hx hv => by
      have : (List.replicate n (z.cells.toList.map litD)).flatten = ((List.replicate n z.cells.toList).flatten).map litD := by rw [List.map_flatten, List.map_replicate]
      rw [this, List.getElem?_map, hv] at hx
      cases hx
      exact litD_rep (hmem v (List.mem_of_getElem? hv))⟩ hmem hul hge hcm hlen (by
        have := take_rep (zs := z.cells.toList) hge
        rw [Array.length_toList, hz1] at this
        rw [hflat]; first | exact this | (rw [hul]; exact this))
  refine ⟨_, _, m', S, ?_, k1, fun _ h => h, fun b hb => k2 b hb, k3, k4 _⟩
  subst hL
  simp [execOp, ho, resolve, invoke, builtin, e1, e2, hrun]
/-! ### a row's mark -/
theorem freeze_end {w : World} {g : Nat} {cur : Array Value} {e : TypeId} (h : RowAt w g cur e) : RowAt (w.freeze ⟨g, cur.size, none⟩ 1) g cur e := by
  obtain ⟨⟨lo, hi⟩, h, h2⟩ := h
  refine ⟨(if lo == hi then (cur.size, cur.size + 1) else (min lo cur.size, max hi (cur.size + 1))), ?_, ?_⟩
  · simp only [World.freeze]
    rw [if_neg (by decide)]
    simp only [Array.getElem?_modify, if_true, h]
    rfl
  · unfold FzOK
    split
    · right; simp
    · rename_i hne
      right
      rcases h2 with h2 | h2
      · simp only at h2; simp [h2] at hne
      · simp only at h2 ⊢; omega
theorem freeze_other {w : World} {g k n : Nat} (h : k ≠ g) : (w.freeze ⟨g, n, none⟩ 1).heap[k]? = w.heap[k]? := by
  simp only [World.freeze]
  rw [if_neg (by decide)]
  simp only [Array.getElem?_modify]
  rw [if_neg (fun e => h e.symm)]
theorem freeze_size {w : World} {g n : Nat} : (w.freeze ⟨g, n, none⟩ 1).heap.size = w.heap.size := by
  simp only [World.freeze]
  rw [if_neg (by decide)]
  simp
/-- A row of our own is marked: it is what it was. -/
theorem hold_mark {cx : Cx} {m : Mp} {S : Nat → Prop} {w : World} {H : List Blk} {id e sz n : Nat} {xs : List D} (h : Hold cx m S w H) (hb : H.getD id .unborn = .arr e sz n xs) (hn : 0 < n ∨ ∃ g c, m id = some (.arr (.slice (some g) n c))) :
    ∃ g cap cur, m id = some (.arr (.slice (some ⟨g, 0, none⟩) n cap)) ∧ RowAt w g cur e ∧ Keeps S w (w.freeze ⟨g, cur.size, none⟩ 1) ∧ Hold cx m S (w.freeze ⟨g, cur.size, none⟩ 1) (setAt H id (.arr e sz n xs)) := by
  have hok := h.ok id
  rw [hb] at hok
  obtain ⟨v, h5, ⟨cells, ⟨hl, hq⟩, h7, h8⟩, h9⟩ := hok
  rcases hq with ⟨hv0, h0⟩ | ⟨g, cap, cur, rfl, hB, hg, hnc, hcm, hcs, ht⟩
  · rcases hn with hn | ⟨g, c, hn⟩
    · omega
    · rw [hn] at h5; cases h5; cases hv0
  · refine ⟨g, cap, cur, h5, hg, ?_⟩
    exact h.write (w' := w.freeze ⟨g, cur.size, none⟩ 1) h5 (g := g) rfl (h9 g rfl) (by simp only [World.freeze]; rw [if_neg (by decide)]) (by simp only [World.freeze]; rw [if_neg (by decide)]) (by simp only [World.freeze]; rw [if_neg (by decide)]) (by rw [freeze_size]; exact Nat.le_refl _)
      (fun k hk hne => freeze_other hne) _ (fun hK => ⟨_, h5, ⟨cells, ⟨hl, .inr ⟨g, cap, cur, rfl, hB, freeze_end hg, hnc, hcm, hcs, ht⟩⟩, h7.mono (fun _ h => h) hK, h8⟩, h9⟩)
theorem RowAt.shape {w : World} {g : Nat} {cur : Array Value} {e : TypeId} (h : RowAt w g cur e) : w.shape? g = some (e, cur.size) := by
  obtain ⟨fz, h, _⟩ := h
  unfold World.shape?; rw [h]
/-- '[]byte(text)' of a constant text: its row is marked. -/
theorem Omk {t e id sz n : Nat} {x : Operand} {xs : List D} (ho : o.op = .convert t t x) (hd : P.underlying t = some (.slice e)) (he : P.underlying e = some (.int .u8)) (hn : 0 < n) (hx : opA st x = .own id := by kernel_rfl) (hb : st.H.getD id .unborn = .arr e sz n xs := by kernel_rfl) :
    OpRun P o st (locOf x ++ [.blk id]) (.own id) [(id, .arr e sz n xs)] := by
  refine .value fun st' hag cx m S a w hs => ?_
  have hb' : st'.H.getD id .unborn = .arr e sz n xs := (blk1 (by simp) hag).trans hb
  have hrd := op_rep hx (R := locOf x ++ [.blk id]) (fun l h => by simp [h]) hag hs
  obtain ⟨g, cap, cur, h5, hg, hK, hH⟩ := hold_mark hs.hold hb' (.inl hn)
  have hrd' := hrd
  simp only [Rep, h5] at hrd
  refine ⟨a.eval x, _, m, S, ?_, Le.refl m, fun _ h => h, hK, hH, ?_⟩
  · have hsh := hg.shape
    simp [execOp, ho, hrd.1, convert, run_underlying hd, run_underlying he, markStringish, hsh]
  · simp only [Rep, h5]; exact hrd
/-- '[]byte(text)': a marked row of our own. -/
theorem Obo {t u e nid : Nat} {x : Operand} {s : ByteArray} (ho : o.op = .convert t u x) (hs0 : P.underlying t = some .string) (hd : P.underlying u = some (.slice e)) (he : P.underlying e = some (.int .u8)) (hm : s.size ≤ maxLen) (hx : opA st x = .d (.lit (.string s)) := by kernel_rfl) (hnid : st.H.getD nid .unborn = .unborn := by kernel_rfl) :
    OpRun P o st (locOf x ++ [.blk nid]) (.own nid) [(nid, .arr e 1 s.size (bytesD s.data.toList))] := by
  refine .value fun st' hag cx m S a w hs => ?_
  have hnid' : st'.H.getD nid .unborn = .unborn := (blk1 (by simp) hag).trans hnid
  have e1 := op_lit hx (R := locOf x ++ [.blk nid]) (fun l h => by simp [h]) hag hs
  have hcap := grownCap_ge w s.size 0 e
  have hcm := grownCap_le_maxLen w s.size 0 e hm
  generalize hc : grownCap w s.size 0 e = cap at hcap hcm
  have hce : Question.cut (.appendCap s.size 0 e) (w.tape w.drawn (.appendCap s.size 0 e)) = cap := hc
  let C : Array Value := (s.data.map fun b => Value.int .u8 b.toNat) ++ Array.replicate (cap - s.size) (.int .u8 0)
  have hds : s.data.size = s.size := rfl
  have hC : C.size = cap * 1 := by simp only [C, Array.size_append, Array.size_map, Array.size_replicate, hds]; omega
  have hCt : C.toList.take (s.size * 1) = strCells s := by
    simp only [C, Array.toList_append, Array.toList_map, Nat.mul_one]
    rw [List.take_left' (by simp [hds])]
    rfl
  have hd0 := hs.hold.drew
  have k1 : RepsD S w.drew (bytesD s.data.toList) (strCells s) := ⟨by rw [strCells_length, bytesD_length]; rfl, fun j x u hx hu => by
    simp only [strCells, bytesD, List.getElem?_map] at hx hu
    cases hj : s.data.toList[j]? with
    | none => rw [hj] at hx; cases hx
    | some b => rw [hj] at hx hu; cases hx; cases hu; unfold byteD RepD; exact ⟨rfl, rfl⟩⟩
  obtain ⟨m', j1, j2, j3, j4⟩ := hold_row (e := e) (sz := 1) (n := s.size) (cap := cap) (ds := bytesD s.data.toList) (us := strCells s) (cur := C) hd0 hnid' k1 (strCells_oneCell s) (by rw [strCells_length]; omega) hcap hcm hC hCt
  obtain ⟨g, cap', cur', h5, hg, hK, hH⟩ := hold_mark j3 (id := nid) (by rw [getD_setAt, if_pos rfl]) (.inr (by
    have hok := j3.ok nid
    rw [getD_setAt, if_pos rfl] at hok
    obtain ⟨v, q1, _⟩ := hok
    have q2 := j4 w
    simp only [Rep, q1] at q2
    exact ⟨_, _, by rw [q1, ← q2.1]⟩))
  have hrep := j4 w
  simp only [Rep, h5] at hrep
  obtain ⟨hv, _⟩ := hrep
  simp only [Value.slice.injEq, Option.some.injEq, Addr.mk.injEq] at hv
  obtain ⟨⟨rfl, _⟩, _, rfl⟩ := hv
  have hcur : cur' = C := by
    obtain ⟨fz, q, _⟩ := hg
    rw [heap_alloc_new w.drew _] at q
    simp only [Option.some.injEq, Obj.cells.injEq] at q
    exact q.1.symm
  subst hcur
  refine ⟨_, _, m', S, ?_, j1, fun _ h => h, fun b hb => (hK b hb).trans (j2 b hb), hH.congr fun j => by
    show (setAt st'.H nid (.arr e 1 s.size (bytesD s.data.toList))).getD j .unborn = _
    simp only [getD_setAt]; split <;> simp_all, by simp only [Rep, h5]; exact ⟨rfl, rfl⟩⟩
  have hsh := hg.shape
  simp only [World.drew] at hsh
  simp [execOp, ho, e1, convert, run_underlying hs0, run_underlying hd, run_underlying he, Conv.stringToBytes, Question.forced, newRow, markStringish, hce]
  simp [C] at hsh ⊢
  simp [hsh]
theorem bl_bytes {id e : Nat} {l : List UInt8} : ([(id, Blk.arr e 1 (toS l).size (bytesD (toS l).data.toList))] : List (Nat × Blk)) = [(id, .arr e 1 (List.length l) (flatD encU8 l))] := by
  rw [flatU8]; rfl
/-- A load from an array's cells, the place given by a number. -/
theorem OldD {t : TypeId} {x : Operand} {z : A} {id off : Nat} {cs xs : List A} (ho : o.op = .load t x) (hx : opA st x = .loc id off) (hb : st.H.getD id .unborn = .box cs) (hcs : cs = xs) (h : loadA P t xs off = some z) : OpRun P o st (locOf x ++ locA (opA st x)) z [] :=
  Old ho (by unfold loadOf; rw [hx]; simp only [cellsAt, hb, hcs]; exact h)
/-! ### an array's cells as a slice -/
theorem Oas {t n e sz : Nat} {x : Operand} {ds : List D} (ho : o.op = .slice t x none none none) (hu : P.underlying t = some (.array n e)) (hi : (P.info? e).map (·.size) = some sz) (hl : ds.length = n * sz) (hn : Nat.ble n 1000000 = true := by rfl) (hx : opA st x = .d (.ref ds) := by kernel_rfl) : OpRun P o st (locOf x) (.d (.sl n ds)) [] := by
  refine .pure fun st' hag cx m S a w hs => ?_
  have e1 := op_rep hx (R := locOf x) (fun l h => h) hag hs
  simp only [Rep, RepD] at e1
  obtain ⟨p, hp, h2⟩ := e1
  have hn' : n ≤ 1000000 := Nat.le_of_ble_eq_true hn
  obtain ⟨j, hj, hjs⟩ : ∃ j, P.info? e = some j ∧ j.size = sz := by
    cases hx : P.info? e with
    | none => rw [hx] at hi; cases hi
    | some j => rw [hx] at hi; exact ⟨j, rfl, by simpa using hi⟩
  refine ⟨.slice (some p) n n, ?_, ?_⟩
  · simp [execOp, ho, Instr.sliceAt, run_underlying hu, hp, Instr.sureAddr, Instr.sliceBounds, sizeOf, typeInfo, hj, hjs, Addr.add]
  · simp only [Rep, RepD]
    exact ⟨_, n, rfl, Nat.le_refl _, by unfold maxLen; omega, (fun h => by cases h), h2⟩
end
/-- An element's address in a part of an own row. -/
theorem Ois {P : Program} {o : Oper} {st : St} {t sz n id e' sz' n' : Nat} {x ix : Operand} {iv at_ : Int} {q : Prop} {ds : List D} (ho : o.op = .indexAddr t x ix) (hc : 0 ≤ at_ ∧ q) (h : 0 ≤ iv ∧ iv < ((n : Nat) : Int))
    (hx : opA st x = .sub id (Int.toNat at_ * sz) n := by kernel_rfl) (hb : st.H.getD id .unborn = .arr e' sz' n' ds := by kernel_rfl) (he : (sliceElem P t).map Prod.snd = some sz := by kernel_rfl) (hix : intOf (opA st ix) = some iv := by kernel_rfl) :
    OpRun P o st (locsOf [x, ix] ++ locA (opA st x)) (.loc id (Int.toNat (at_ + iv) * sz)) [] := by
  obtain ⟨k, hk⟩ := intOf_spec hix
  cases hs : sliceElem P t with
  | none => rw [hs] at he; cases he
  | some q =>
    obtain ⟨e, s⟩ := q
    rw [hs] at he
    cases he
    refine (op_iaddr (i := Int.toNat iv) (off := Int.toNat at_ * s) (n := n) (ds := ds) ho rfl (by rw [hx]; simp only [sliceAt, hb]) hs hk (by omega) (by omega)).cast ?_
    rw [hx]
    simp only [elemA]
    rw [show Int.toNat (at_ + iv) = Int.toNat at_ + Int.toNat iv by omega, Nat.add_mul]
/-- A list of literals, frozen at once: it has no room for more. -/
theorem op_buildSliceC {P : Program} {o : Oper} {st : St} {t e sz len : Nat} {parts : List (Nat × Operand)} {zs ys : List A} {ds : List D} (ho : o.op = .buildSlice t len parts.toArray) (he : sliceElem P t = some (e, sz)) (hz : zeroA P e = some zs) (hzl : zs.length = sz) (hsz : 0 < sz)
    (hbig : Nat.ble (len * sz) 16777216 = true) (hf : fillA ((List.range len).map fun i => (i * sz, sz)) (List.replicate (len * sz) .top) (partsA st parts) = some ys) (hd : toDs ys = some ds) (hyl : ys.length = len * sz) :
    OpRun P o st (partLocs parts) (.d (.slc len ds)) [] := by
  refine .value fun st' hag cx m S a w hs => ?_
  obtain ⟨hu, inf, hinf, hsz'⟩ := sliceElem_spec he
  obtain ⟨i, z, hi, hzz, h1, rfl⟩ := zeroA_spec hz
  rw [hinf] at hi; cases hi
  have hzs : z.cells.size = sz := by simpa using hzl
  have hle : len * sz ≤ 16777216 := by simpa [Nat.ble_eq] using hbig
  have ones0 : ones ((Array.range (len * sz)).map (fun k => z.cells[k % z.cells.size]!)).toList := by
    intro v hv
    simp only [Array.toList_map, Array.toList_range, List.mem_map, List.mem_range] at hv
    obtain ⟨k, hk, rfl⟩ := hv
    have hlt : k % z.cells.size < z.cells.size := Nat.mod_lt _ (by omega)
    rw [getElem!_pos z.cells _ hlt]
    exact h1 _ (by simp)
  have reps0 : Reps m S w (List.replicate (len * sz) A.top) ((Array.range (len * sz)).map (fun k => z.cells[k % z.cells.size]!)).toList := Reps.of (by simp) fun j x v hx hv => by
    rw [List.getElem?_replicate] at hx
    split at hx
    · cases hx; simp only [Rep]
    · cases hx
  obtain ⟨cells, h2, h3, h4⟩ := fill_spec (m := m) (S := S) (w := w) (pl := fun i => some (i * sz, sz)) (fun i q h => by
      rw [List.getElem?_map] at h
      cases hr : (List.range len)[i]? with
      | none => rw [hr] at h; cases h
      | some k =>
        rw [hr] at h; cases h
        obtain ⟨hjl, hk⟩ := List.getElem?_eq_some_iff.1 hr
        simp at hk; subst hk; rfl) (vparts := parts.map fun p => (p.1, a.eval p.2)) hf reps0 ones0 (by simp [partsA]) (parts_reps (fun _ h => h) hag hs)
  have hl3 := h3.length
  have hlen : cells.size = len * sz := by simp at hl3; omega
  have hmx : len ≤ maxLen := by
    have := Nat.le_mul_of_pos_right len hsz
    unfold maxLen; omega
  obtain ⟨hK, hold⟩ := hs.hold.allocS (w' := w.alloc (.cells cells e)) rfl rfl rfl (by simp) (fun b hb => Below.heap_alloc w (.cells cells e) b hb)
  have hr := toDs_reps hd h3
  refine ⟨.slice (some ⟨w.heap.size, 0, none⟩) len len, w.alloc (.cells cells e), m, fun b => S b ∨ b = w.heap.size, ?_, Le.refl m, fun _ h => .inl h, hK, hold, by
    simp only [Rep, RepD]
    refine ⟨_, rfl, hmx, (fun h => by cases h), RepDs.of _ _ _ fun j c hj => ?_⟩
    obtain ⟨u, hu'⟩ : ∃ u, cells.toList[j]? = some u := by
      have h1 := (List.getElem?_eq_some_iff.1 hj).1
      have h2 := hr.1
      exact ⟨cells.toList[j]'(by omega), List.getElem?_eq_getElem _⟩
    refine ⟨_, u, rfl, ?_, .inr rfl, h4 u (List.mem_of_getElem? hu'), RepD.mono (fun _ h => .inl h) hK _ _ (hr.2 j c u hj hu')⟩
    rw [addr_add, cell_at (heap_alloc_new w _)]
    simpa using hu'⟩
  have ep : (parts.toArray.map fun p : Nat × Operand => (p.1, a.eval p.2)).toList = parts.map fun p => (p.1, a.eval p.2) := by simp
  simp only [execOp, ho, Instr.buildSlice, Sem.run_bind]
  simp only [run_underlying hu, sizeOf, typeInfo, hinf, Sem.run_bind, run_program, Result.andThen_ok, Sem.run_pure, hsz']
  rw [if_neg (by omega)]
  by_cases h0 : len * sz = 0
  · rw [if_pos h0]
    simp only [Sem.run_bind, Sem.run_pure, Result.andThen_ok]
    have e0 : ((Array.range (len * sz)).map (fun k => (#[] : Array Value)[k % (#[] : Array Value).size]!)) = ((Array.range (len * sz)).map (fun k => z.cells[k % z.cells.size]!)) := by
      rw [h0]; simp [Array.range]
    erw [e0, ep, h2]
    simp [newRow]
  · rw [if_neg h0]
    simp only [zeroValue, typeInfo, hinf, hzz, Sem.run_bind, run_program, Result.andThen_ok, Sem.run_pure]
    erw [ep, h2]
    simp [newRow]
def clipOf : Option Blk → Option A
  | some (.arr _ _ n ds) => some (.d (.slc n ds))
  | _ => none
theorem Obc {P : Program} {o : Oper} {st : St} {t : TypeId} {len : Nat} {parts : List (Nat × Operand)} {val : A} (ho : o.op = .buildSlice t len parts.toArray) (h : clipOf (buildSliceOf P t len (partsA st parts)) = some val := by kernel_rfl) :
    OpRun P o st (partLocs parts) val [] := by
  unfold buildSliceOf at h
  split at h
  · rename_i e sz he
    split at h
    · rename_i zs hz
      split at h
      · rename_i ys h1 h2 h3 h4
        split at h
        · rename_i ds h5 h6
          cases h
          exact op_buildSliceC ho he hz (Nat.eq_of_beq_eq_true h1) (Nat.le_of_ble_eq_true h2) h3 h4 h5 (Nat.eq_of_beq_eq_true h6)
        · cases h
      · cases h
    · cases h
  · cases h
/-- It may be read as any list. -/
theorem Omc {P : Program} {o : Oper} {st : St} {α : Type} {x : Operand} (enc : α → List D) (l : List α) (ho : mvOf o.op = some x) (h : opA st x = .d (.slc (List.length l) (flatD enc l)) := by kernel_rfl) : OpRun P o st (locOf x) (.d (.sl (List.length l) (flatD enc l))) [] := by
  refine .pure fun st' hl cx m S a w hs => ⟨a.eval x, ?_, ?_⟩
  · obtain ⟨dst, op, type, pos, after, guard⟩ := o
    cases op <;> simp only [mvOf] at ho <;> first | (cases ho; rfl) | cases ho
  · have hr := op_rep h (fun _ h => h) hl hs
    simp only [Rep, RepD] at hr ⊢
    obtain ⟨a', h1, h2, h3, h4⟩ := hr
    exact ⟨a', _, h1, Nat.le_refl _, h2, fun e => ⟨h3 e, h3 e⟩, h4⟩
theorem Ocw {P : Program} {o : Oper} {st : St} {R : List Loc} {n : Nat} {cs : List D} {bl : List (Nat × Blk)} (h : OpRun P o st R (.d (.slc n cs)) bl) : OpRun P o st R (.d (.sl n cs)) bl := fun st' hl he cx m S a w hs => by
  refine runs_mono (h st' hl he cx m S a w hs) ?_
  rintro v w' ⟨m', S', h1, h2, h3, h4, h5⟩
  refine ⟨m', S', h1, h2, h3, h4, ?_⟩
  simp only [Rep, RepD] at h5 ⊢
  obtain ⟨a', k1, k2, k3, k4⟩ := h5
  exact ⟨a', _, k1, Nat.le_refl _, k2, fun e => ⟨k3 e, k3 e⟩, k4⟩
end Go.Proofs.Ytdpmojhejidhiaa.K
