/- The operations that make and write memory. -/
import Derived.Test.YtdpmojhejidhiaaAi
namespace Go.Proofs.Ytdpmojhejidhiaa.K
open Go.RowKit
set_option linter.unusedVariables false
set_option linter.unusedSimpArgs false

def A.one : A → Bool
  | .d _ => true
  | .loc _ _ => true
  | .own _ => true
  | .sub _ _ _ => true
  | .clo _ _ _ => true
  | _ => false
theorem repD_one {S : Nat → Prop} {w : World} {x : D} {v : Value} (h : RepD S w x v) : v.oneCell' = true := by
  cases x with
  | nil => simp only [RepD] at h; subst h; rfl
  | lit u => simp only [RepD] at h; rw [h.1]; exact h.2
  | sl n cs => simp only [RepD] at h; obtain ⟨a, cap, rfl, _⟩ := h; rfl
  | ref cs => simp only [RepD] at h; obtain ⟨a, rfl, _⟩ := h; rfl
  | slc n cs => simp only [RepD] at h; obtain ⟨a, rfl, _⟩ := h; rfl
theorem rep_one {m : Mp} {S : Nat → Prop} {w : World} {x : A} {v : Value} (ho : x.one = true) (h : Rep m S w x v) : v.oneCell' = true := by
  cases x with
  | d x => simp only [Rep] at h; exact repD_one h
  | clo fn f c => simp only [Rep] at h; obtain ⟨vs, cs, rfl, _⟩ := h; rfl
  | top => cases ho
  | agg xs => cases ho
  | tup xs => cases ho
  | ab p => cases ho
  | loc id off =>
    simp only [Rep] at h
    cases hm : m id with
    | none => rw [hm] at h; exact h.elim
    | some p =>
      rw [hm] at h
      cases p with
      | gone => exact h
      | box b => simp only at h; subst h; rfl
      | arr v => obtain ⟨g, _, rfl⟩ := h; rfl
  | own id =>
    simp only [Rep] at h
    cases hm : m id with
    | none => rw [hm] at h; exact h.elim
    | some p =>
      rw [hm] at h
      cases p with
      | gone => exact h
      | box b => exact h.elim
      | arr v => exact h.2
  | sub id off n =>
    simp only [Rep] at h
    cases hm : m id with
    | none => rw [hm] at h; exact h.elim
    | some p =>
      rw [hm] at h
      cases p with
      | gone => exact h
      | box b => exact h.elim
      | arr v => obtain ⟨g, cap, _, rfl, _⟩ := h; rfl
def allOne : List A → Bool
  | [] => true
  | x :: xs => match x.one with | true => allOne xs | false => false
theorem allOne_mem : ∀ {xs : List A}, allOne xs = true → ∀ x ∈ xs, x.one = true
  | [], _, x, hx => by cases hx
  | y :: ys, h, x, hx => by
    simp only [allOne] at h
    cases hy : y.one with
    | false => rw [hy] at h; cases h
    | true =>
      rw [hy] at h
      rcases List.mem_cons.1 hx with rfl | hx
      · exact hy
      · exact allOne_mem h x hx
/-- The cells of a value. -/
def cellsOf : A → Option (List A)
  | .agg xs => match allOne xs with | true => some xs | false => none
  | x => match x.one with | true => some [x] | false => none
theorem cellsOf_spec {m : Mp} {S : Nat → Prop} {w : World} {x : A} {ys : List A} {v : Value} (h : cellsOf x = some ys) (hv : Rep m S w x v) : Reps m S w ys v.cells.toList ∧ ones v.cells.toList := by
  have key : ∀ (y : A), (match y.one with | true => some [y] | false => none) = some ys → Rep m S w y v → Reps m S w ys v.cells.toList ∧ ones v.cells.toList := fun y hy hr => by
    cases ho : y.one with
    | false => rw [ho] at hy; cases hy
    | true =>
      rw [ho] at hy; cases hy
      have h1 := rep_one ho hr
      have : v.cells = #[v] := by cases v <;> first | rfl | cases h1
      rw [this]
      exact ⟨by simp only [Reps]; exact ⟨v, [], rfl, hr, rfl⟩, fun u hu => by simp at hu; subst hu; exact h1⟩
  cases x with
  | agg xs =>
    simp only [cellsOf] at h
    cases ho : allOne xs with
    | false => rw [ho] at h; cases h
    | true =>
      rw [ho] at h; cases h
      simp only [Rep] at hv
      obtain ⟨vs, rfl, h2⟩ := hv
      refine ⟨h2, fun u hu => ?_⟩
      obtain ⟨i, hi, rfl⟩ := List.getElem_of_mem hu
      have hl := h2.length
      obtain ⟨u', h3, h4⟩ := h2.at i (ys[i]'(by simp only [Value.cells] at hi; omega)) (List.getElem?_eq_getElem _)
      have : vs.toList[i] = u' := by
        have := List.getElem?_eq_getElem (l := vs.toList) (i := i) (by simpa [Value.cells] using hi)
        rw [this] at h3; exact Option.some.inj h3
      show vs.toList[i].oneCell' = true
      rw [this]
      exact rep_one (allOne_mem ho _ (List.getElem_mem _)) h4
  | top => exact key .top h hv
  | d x => exact key (.d x) h hv
  | tup xs => exact key (.tup xs) h hv
  | loc id off => exact key (.loc id off) h hv
  | own id => exact key (.own id) h hv
  | sub id off n => exact key (.sub id off n) h hv
  | clo fn f c => exact key (.clo fn f c) h hv
  | ab p => exact key (.ab p) h hv
/-- Cells put over others from a place on. -/
def putC {α : Type} (xs : List α) (off : Nat) (ys : List α) : List α := xs.take off ++ ys ++ xs.drop (off + ys.length)
theorem Reps.take {m : Mp} {S : Nat → Prop} {w : World} {xs : List A} {vs : List Value} (h : Reps m S w xs vs) (k : Nat) : Reps m S w (xs.take k) (vs.take k) := by
  have hl := h.length
  refine Reps.of (by simp [hl]) fun i x v hx hv => ?_
  rw [List.getElem?_take] at hx hv
  split at hx
  · rename_i hk; rw [if_pos hk] at hv
    obtain ⟨u, h1, h2⟩ := h.at i x hx
    rw [h1] at hv; cases hv; exact h2
  · cases hx
theorem Reps.drop {m : Mp} {S : Nat → Prop} {w : World} {xs : List A} {vs : List Value} (h : Reps m S w xs vs) (k : Nat) : Reps m S w (xs.drop k) (vs.drop k) := by
  have hl := h.length
  refine Reps.of (by simp [hl]) fun i x v hx hv => ?_
  rw [List.getElem?_drop] at hx hv
  obtain ⟨u, h1, h2⟩ := h.at _ x hx
  rw [h1] at hv; cases hv; exact h2
theorem Reps.putC {m : Mp} {S : Nat → Prop} {w : World} {xs ys : List A} {vs us : List Value} (h : Reps m S w xs vs) (k : Reps m S w ys us) (off : Nat) : Reps m S w (putC xs off ys) (putC vs off us) := by
  unfold K.putC
  rw [k.length]
  exact ((h.take off).append k).append (h.drop _)
theorem ones_putC {xs ys : List Value} (h : ones xs) (k : ones ys) (off : Nat) : ones (putC xs off ys) := by
  intro v hv
  unfold putC at hv
  simp only [List.mem_append] at hv
  rcases hv with (hv | hv) | hv
  · exact h v (List.mem_of_mem_take hv)
  · exact k v hv
  · exact h v (List.mem_of_mem_drop hv)
theorem putC_length {α : Type} {xs ys : List α} {off : Nat} (h : off + ys.length ≤ xs.length) : (putC xs off ys).length = xs.length := by simp [putC]; omega
theorem putC_get {α : Type} (xs : List α) (off : Nat) (ys : List α) (i : Nat) (h : off ≤ xs.length) : (putC xs off ys)[i]? = if i < off then xs[i]? else if i < off + ys.length then ys[i - off]? else xs[i]? := by
  unfold putC
  rw [List.append_assoc, List.getElem?_append, List.length_take, Nat.min_eq_left h]
  split
  · rename_i hi; rw [List.getElem?_take, if_pos hi]
  · rename_i hi
    rw [List.getElem?_append]
    split
    · rename_i h2; rw [if_pos (by omega)]
    · rename_i h2
      rw [if_neg (by omega), List.getElem?_drop]
      congr 1; omega
theorem putC_take {α : Type} (xs : List α) (off : Nat) (ys : List α) (k : Nat) (h : off + ys.length ≤ k) (hk : k ≤ xs.length) : (putC xs off ys).take k = putC (xs.take k) off ys := by
  apply List.ext_getElem?
  intro i
  rw [putC_get _ _ _ _ (by simp; omega), List.getElem?_take, List.getElem?_take]
  by_cases hi : i < k
  · rw [if_pos hi, if_pos hi, putC_get _ _ _ _ (by omega)]
  · rw [if_neg hi, if_neg hi, if_neg (by omega), if_neg (by omega)]
def sizeT (P : Program) (t : TypeId) : Option Nat := (P.info? t).map (·.size)
theorem sizeT_spec {P : Program} {t : TypeId} {n : Nat} (h : sizeT P t = some n) : ∃ i, P.info? t = some i ∧ i.size = n := by
  unfold sizeT at h
  cases hi : P.info? t with
  | none => rw [hi] at h; cases h
  | some i => rw [hi] at h; cases h; exact ⟨i, rfl, rfl⟩

section
variable {P : Program} {o : Oper} {st : St}
theorem OpRun.skip {R : List Loc} {bl : List (Nat × Blk)} (h : ∀ st' : St, (∀ l ∈ R, st'.at l = st.at l) → ∀ (cx : Cx) (m : Mp) (S : Nat → Prop) (a : Act) (w : World), Sim cx m S a w st' →
    ∃ w' m' S', (execOp a.eval o).run P w = .ok .skip w' ∧ Le m m' ∧ (∀ b, S b → S' b) ∧ Keeps S w w' ∧ Hold cx m' S' w' (putB st'.H bl)) : OpRun P o st R (.tup []) bl := by
  intro st' hl _ cx m S a w hs
  obtain ⟨w', m', S', h1, h2, h3, h4, h5⟩ := h st' hl cx m S a w hs
  rw [h1]
  exact ⟨m', S', h2, h3, h4, h5, by simp only [Rep, Reps]; exact ⟨_, rfl, rfl⟩⟩
theorem OpRun.value {R : List Loc} {bl : List (Nat × Blk)} {val : A} (h : ∀ st' : St, (∀ l ∈ R, st'.at l = st.at l) → ∀ (cx : Cx) (m : Mp) (S : Nat → Prop) (a : Act) (w : World), Sim cx m S a w st' →
    ∃ v w' m' S', (execOp a.eval o).run P w = .ok (.value v) w' ∧ Le m m' ∧ (∀ b, S b → S' b) ∧ Keeps S w w' ∧ Hold cx m' S' w' (putB st'.H bl) ∧ Rep m' S' w' val v) : OpRun P o st R val bl := by
  intro st' hl _ cx m S a w hs
  obtain ⟨v, w', m', S', h1, h2, h3, h4, h5, h6⟩ := h st' hl cx m S a w hs
  rw [h1]
  exact ⟨m', S', h2, h3, h4, h5, h6⟩
theorem run_storeV {t : TypeId} {g off n : Nat} {cur : Array Value} {T : TypeId} {v : Value} {w : World} (hg : RowAt w g cur T) (hn : sizeT P t = some n) (hv : v.cells.size = n) (hfit : off + n ≤ cur.size) (h1 : ones v.cells.toList) :
    (storeVar t ⟨g, off, none⟩ v).run P w = .ok () (w.setRow g (putC cur.toList off v.cells.toList).toArray) := by
  obtain ⟨i, hi, hsz⟩ := sizeT_spec hn
  have hst := run_storeCells_row P g off T v.cells.toList 0 cur w hg (by simp; omega) h1
  simp only [Nat.add_zero] at hst
  simp [storeVar, sizeOf, typeInfo, hi, hsz, hv, hst, putC]
/-- 'store' into a variable. -/
theorem op_store {t : TypeId} {x y : Operand} {id off : Nat} {xs ys : List A} {v : A} (ho : o.op = .store t x y) (hx : opA st x = .loc id off) (hb : st.H.getD id .unborn = .box xs) (hy : opA st y = v) (hys : cellsOf v = some ys) (hn : sizeT P t = some ys.length) (hfit : off + ys.length ≤ xs.length) :
    OpRun P o st (locsOf [x, y] ++ [.blk id]) (.tup []) [(id, .box (putC xs off ys))] := by
  refine .skip fun st' hag cx m S a w hs => ?_
  have hr := op_rep hx (R := locsOf [x, y] ++ [.blk id]) (fun l h => by simp [locsOf, h]) hag hs
  have hv := op_rep hy (R := locsOf [x, y] ++ [.blk id]) (fun l h => by simp [locsOf, h]) hag hs
  have hb' : st'.H.getD id .unborn = .box xs := (blk_agree (st := st) (st' := st') (ids := [id]) (fun l h => hag l (by simp [blks] at h; simp [h])) (by simp)).trans hb
  have hok := hs.hold.ok id
  rw [hb'] at hok
  obtain ⟨b, cells, T, h1, h2, h3, h4, h5⟩ := hok
  simp only [Rep, h1] at hr
  obtain ⟨h6, h7⟩ := cellsOf_spec hys hv
  have hlen := h6.length
  have hlx := h3.length
  have hrun := run_storeV (P := P) (t := t) (off := off) (RowAt.of h2) hn (by simpa using hlen) (by simp at hlx; omega) h7
  have hw := hs.hold.write (w' := w.setRow b (putC cells.toList off (a.eval y).cells.toList).toArray) (b := .box (putC xs off ys)) h1 rfl h5 rfl rfl rfl (by simp [World.setRow])
    (fun k hk hne => setRow_other w b k _ hne) (fun hK => ⟨b, _, T, h1, setRow_heap w b cells _ T _ h2, by simpa using (Reps.mono (Le.refl m) (fun _ h => h) hK _ _ h3).putC (Reps.mono (Le.refl m) (fun _ h => h) hK _ _ h6) off, by simpa using ones_putC h4 h7 off, h5⟩)
  refine ⟨_, m, S, ?_, Le.refl m, fun _ h => h, hw.1, hw.2⟩
  simp [execOp, ho, Instr.storeAt, Instr.sureAddr, hr, hrun]
theorem rowOK_put {S : Nat → Prop} {w : World} {e sz n : Nat} {ds es : List D} {g : Nat} {v : Value} {us : List Value} {off : Nat} (h : RowOK S w e sz n ds v) (hg : v.ownBlock = some g) (hu : RepsD S w es us) (h1 : ones us) (hfit : off + es.length ≤ ds.length) :
    ∃ cur T, RowAt w g cur T ∧ off + us.length ≤ cur.size ∧ ∀ {S' : Nat → Prop} {w' : World}, (∀ fz, w.heap[g]? = some (.cells cur T fz) → w'.heap[g]? = some (.cells (putC cur.toList off us).toArray T fz)) → (∀ b, S b → S' b) → Keeps S w w' → RowOK S' w' e sz n (putC ds off es) v := by
  obtain ⟨cells, ⟨hl, ⟨rfl, rfl⟩ | ⟨g', cap, cur, rfl, hB, hh, hn, hm, hs, ht⟩⟩, hr, h2⟩ := h
  · simp [Value.ownBlock] at hg
  · simp only [Value.ownBlock, Option.some.injEq] at hg
    subst hg
    have hcl : cells.length ≤ cur.size := by rw [← ht]; simp; omega
    have hlu := hu.1
    have hlr := hr.1
    refine ⟨cur, e, hh, by omega, fun {S' w'} hw' hS hK => ⟨putC cells off us, ⟨?_, .inr ⟨g', cap, _, rfl, hB, hh.put (by simp only [List.size_toArray]; rw [putC_length (by simp; omega)]; simp) hw', hn, hm, ?_, ?_⟩⟩, ?_, ones_putC h2 h1 off⟩⟩
    · rw [putC_length (by omega)]; exact hl
    · simp only [List.size_toArray]
      rw [putC_length (by simp; omega)]; simpa using hs
    · simp only []
      rw [putC_take _ _ _ _ (by omega) (by have := Nat.mul_le_mul_right sz hn; simp; omega), ht]
    · refine ⟨by rw [putC_length (by omega), putC_length (by omega)]; exact hlr, fun i x v hx hv => ?_⟩
      have k1 := hr.mono hS hK
      have k2 := hu.mono hS hK
      rw [putC_get _ _ _ _ (by omega)] at hx hv
      rw [hlu] at hv
      split at hx
      · rename_i hi; rw [if_pos hi] at hv; exact k1.2 i x v hx hv
      · rename_i hi
        rw [if_neg hi] at hv
        split at hx
        · rename_i hi2; rw [if_pos hi2] at hv; exact k2.2 _ x v hx hv
        · rename_i hi2; rw [if_neg hi2] at hv; exact k1.2 i x v hx hv
/-- 'store' into a row of our own. -/
theorem op_storeRow {t : TypeId} {x y : Operand} {id off e sz n : Nat} {ds es : List D} {ys : List A} {v : A} (ho : o.op = .store t x y) (hx : opA st x = .loc id off) (hb : st.H.getD id .unborn = .arr e sz n ds) (hy : opA st y = v) (hys : cellsOf v = some ys) (hes : toDs ys = some es)
    (hn : sizeT P t = some ys.length) (hfit : off + es.length ≤ ds.length) : OpRun P o st (locsOf [x, y] ++ [.blk id]) (.tup []) [(id, .arr e sz n (putC ds off es))] := by
  refine .skip fun st' hag cx m S a w hs => ?_
  have hr := op_rep hx (R := locsOf [x, y] ++ [.blk id]) (fun l h => by simp [locsOf, h]) hag hs
  have hv := op_rep hy (R := locsOf [x, y] ++ [.blk id]) (fun l h => by simp [locsOf, h]) hag hs
  have hb' : st'.H.getD id .unborn = .arr e sz n ds := (blk_agree (st := st) (st' := st') (ids := [id]) (fun l h => hag l (by simp [blks] at h; simp [h])) (by simp)).trans hb
  have hok := hs.hold.ok id
  rw [hb'] at hok
  obtain ⟨v', h1, h2, h3⟩ := hok
  simp only [Rep, h1] at hr
  obtain ⟨g, hg, hr⟩ := hr
  obtain ⟨h6, h7⟩ := cellsOf_spec hys hv
  have h8 := toDs_reps hes h6
  obtain ⟨cur, T, h9, h10, h11⟩ := rowOK_put h2 hg h8 h7 hfit
  have hlen := h6.length
  have hrun := run_storeV (P := P) (t := t) (off := off) h9 hn (by simpa using hlen) (by rw [← hlen]; exact h10) h7
  have hw := hs.hold.write (w' := w.setRow g (putC cur.toList off (a.eval y).cells.toList).toArray) (b := .arr e sz n (putC ds off es)) h1 hg (h3 g hg) rfl rfl rfl (by simp [World.setRow])
    (fun k hk hne => setRow_other w g k _ hne) (fun hK => ⟨v', h1, h11 (fun fz h => setRow_heap w g cur _ T fz h) (fun _ h => h) hK, h3⟩)
  refine ⟨_, m, S, ?_, Le.refl m, fun _ h => h, hw.1, hw.2⟩
  simp [execOp, ho, Instr.storeAt, Instr.sureAddr, hr, hrun]
/-- A new variable. -/
theorem hold_box {cx : Cx} {m : Mp} {S : Nat → Prop} {w : World} {H : List Blk} {id : Nat} (h : Hold cx m S w H) (hid : H.getD id .unborn = .unborn) {ys : List A} {cells : Array Value} (hr : Reps m S w ys cells.toList) (h1 : ones cells.toList) (t : TypeId) :
    ∃ m', Le m m' ∧ Keeps S w (w.alloc (.cells cells t)) ∧ Hold cx m' S (w.alloc (.cells cells t)) (setAt H id (.box ys)) ∧ ∀ w', Rep m' S w' (.loc id 0) (.pointer (some ⟨w.heap.size, 0, none⟩)) := by
  have := h.alloc hid (.box w.heap.size) rfl (.cells cells t) (.box ys) fun hK hLe => ⟨w.heap.size, cells, t, by simp [updM], heap_alloc_new w _, Reps.mono hLe (fun _ h => h) hK _ _ hr, h1, fun hS => by have := (h.s _ hS).2; omega⟩
  exact ⟨_, this.1, this.2.1, this.2.2, fun w' => by simp [Rep, updM]⟩
def zeroA (P : Program) (t : TypeId) : Option (List A) := match P.info? t with
  | some i => match i.zero with
    | some z => match z.cells.toList.all (·.oneCell') with | true => some (z.cells.toList.map litA) | false => none
    | none => none
  | none => none
theorem zeroA_spec {t : TypeId} {ys : List A} (h : zeroA P t = some ys) : ∃ i z, P.info? t = some i ∧ i.zero = some z ∧ ones z.cells.toList ∧ ys = z.cells.toList.map litA := by
  unfold zeroA at h
  cases hi : P.info? t with
  | none => rw [hi] at h; cases h
  | some i =>
    rw [hi] at h
    simp only at h
    cases hz : i.zero with
    | none => rw [hz] at h; cases h
    | some z =>
      rw [hz] at h
      simp only at h
      cases ha : z.cells.toList.all (·.oneCell') with
      | false => rw [ha] at h; cases h
      | true => rw [ha] at h; cases h; exact ⟨i, z, rfl, hz, fun v hv => List.all_eq_true.1 ha v hv, rfl⟩
theorem op_alloc {t id : Nat} {ys : List A} (ho : o.op = .alloc t) (hz : zeroA P t = some ys) (hid : st.H.getD id .unborn = .unborn) : OpRun P o st [.blk id] (.loc id 0) [(id, .box ys)] := by
  refine .value fun st' hag cx m S a w hs => ?_
  have hid' : st'.H.getD id .unborn = .unborn := (blk_agree (st := st) (st' := st') (ids := [id]) (fun l h => hag l (by simpa [blks] using h)) (by simp)).trans hid
  obtain ⟨i, z, hi, hzz, h1, rfl⟩ := zeroA_spec hz
  obtain ⟨m', h2, h3, h4, h5⟩ := hold_box hs.hold hid' (litAs_rep (m := m) (S := S) (w := w) z.cells.toList) h1 t
  refine ⟨_, _, m', S, ?_, h2, fun _ h => h, h3, h4, h5 _⟩
  simp [execOp, ho, Instr.alloc, zeroValue, typeInfo, hi, hzz, newVar, newRow]
theorem op_box {t id : Nat} {x : Operand} {y : A} {ys : List A} (ho : o.op = .box t x) (hx : opA st x = y) (hys : cellsOf y = some ys) (hid : st.H.getD id .unborn = .unborn) : OpRun P o st (locOf x ++ [.blk id]) (.loc id 0) [(id, .box ys)] := by
  refine .value fun st' hag cx m S a w hs => ?_
  have hid' : st'.H.getD id .unborn = .unborn := (blk_agree (st := st) (st' := st') (ids := [id]) (fun l h => hag l (by simp [blks] at h; simp [h])) (by simp)).trans hid
  have hr := op_rep hx (R := locOf x ++ [.blk id]) (fun l h => by simp [h]) hag hs
  obtain ⟨h6, h7⟩ := cellsOf_spec hys hr
  obtain ⟨m', h2, h3, h4, h5⟩ := hold_box hs.hold hid' h6 h7 t
  refine ⟨_, _, m', S, ?_, h2, fun _ h => h, h3, h4, h5 _⟩
  simp [execOp, ho, Instr.box, newVar, newRow]
/-- A new row. -/
theorem hold_row {cx : Cx} {m : Mp} {S : Nat → Prop} {w : World} {H : List Blk} {id : Nat} (h : Hold cx m S w H) (hid : H.getD id .unborn = .unborn) {e sz n : Nat} {ds : List D} {us : List Value} {cur : Array Value} {cap : Nat} (hr : RepsD S w ds us) (h1 : ones us)
    (hl : us.length = n * sz) (hn : n ≤ cap) (hm : cap ≤ maxLen) (hs : cur.size = cap * sz) (ht : cur.toList.take (n * sz) = us) :
    ∃ m', Le m m' ∧ Keeps S w (w.alloc (.cells cur e)) ∧ Hold cx m' S (w.alloc (.cells cur e)) (setAt H id (.arr e sz n ds)) ∧ ∀ w', Rep m' S w' (.own id) (.slice (some ⟨w.heap.size, 0, none⟩) n cap) := by
  have := h.alloc hid (.arr (.slice (some ⟨w.heap.size, 0, none⟩) n cap)) rfl (.cells cur e) (.arr e sz n ds) fun hK hLe =>
    ⟨_, by simp [updM], ⟨us, ⟨hl, .inr ⟨w.heap.size, cap, cur, rfl, Nat.zero_le _, RowAt.of (heap_alloc_new w _), hn, hm, hs, ht⟩⟩, hr.mono (fun _ h => h) hK, h1⟩, fun g hg hS => by
      simp only [Value.ownBlock, Option.some.injEq] at hg; subst hg; have := (h.s _ hS).2; omega⟩
  exact ⟨_, this.1, this.2.1, this.2.2, fun w' => by simp [Rep, updM, Value.oneCell']⟩
end
end Go.Proofs.Ytdpmojhejidhiaa.K
