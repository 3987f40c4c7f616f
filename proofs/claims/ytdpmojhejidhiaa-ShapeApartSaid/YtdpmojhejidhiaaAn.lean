/- What one may forget; parts of slices, of structs, of texts. -/
import Derived.Test.YtdpmojhejidhiaaAm
namespace Go.Proofs.Ytdpmojhejidhiaa.K
open Go.RowKit Go.Lib
set_option linter.unusedVariables false
set_option linter.unusedSimpArgs false

/-! ### forgetting, other names -/
def wkL (ids : List Nat) : List A → List A → Prop
  | [], [] => True
  | x :: xs, y :: ys => (x = .top ∨ x.ren ids = some y) ∧ wkL ids xs ys
  | _, _ => False
def wkB (ids : List Nat) : Blk → Blk → Prop
  | .box xs, .box ys => wkL ids xs ys
  | b, b' => b.ren ids = some b'
theorem wkL_reps {ids : List Nat} {m : Mp} {S : Nat → Prop} {w : World} : ∀ {xs ys : List A} {vs : List Value}, wkL ids xs ys → Reps m S w ys vs → Reps (via ids m) S w xs vs
  | [], [], vs, _, h => by simpa only [Reps] using h
  | x :: xs, y :: ys, vs, hw, h => by
    simp only [Reps] at h ⊢
    obtain ⟨v, r, rfl, h1, h2⟩ := h
    refine ⟨v, r, rfl, ?_, wkL_reps hw.2 h2⟩
    rcases hw.1 with rfl | he
    · simp only [Rep]
    · exact (Rep.via x y v he).2 h1
  | [], _ :: _, _, hw, _ => hw.elim
  | _ :: _, [], _, hw, _ => hw.elim
theorem wkB_ok {ids : List Nat} {m : Mp} {S : Nat → Prop} {w : World} {j k : Nat} {b b' : Blk} (hk : ids[j]? = some k) (hw : wkB ids b b') (h : BlkOK m S w k b') : BlkOK (via ids m) S w j b := by
  have gen : b.ren ids = some b' → BlkOK (via ids m) S w j b := fun hr => (BlkOK.via hk hr).2 h
  cases b with
  | box xs =>
    cases b' with
    | box ys =>
      obtain ⟨b, cells, T, h1, h2, h3, h4, h5⟩ := h
      exact ⟨b, cells, T, by simp [K.via, hk, h1], h2, wkL_reps hw h3, h4, h5⟩
    | _ => exact gen hw
  | _ => exact gen hw
/-- The state st' says no more than st: its block j is the block ids[j] there. -/
theorem Weak.to {st st' : St} (ids : List Nat) (hk : st'.k = st.k) (hn : ids.Nodup) (hl : ids.length = st'.H.length) (hpre : st.k ≤ ids.length ∧ ids.take st.k = List.range st.k)
    (hH : ∀ (j i : Nat), ids[j]? = some i → wkB ids (st'.H.getD j .unborn) (st.H.getD i .unborn)) (he : wkL ids st'.env st.env) : Weak st st' := by
  intro cx m S a w hs
  have h := hs.hold
  refine ⟨via ids m, S, ⟨⟨h.os, h.tape, h.output, h.size, h.old, h.s0, h.s, fun id p b hp hb => ?_, fun id id' p p' b hne hp hp' hb => ?_, fun j => ?_, fun id p hp => ?_⟩, wkL_reps he hs.env, hs.df, by rw [hk]; exact hs.pre⟩⟩
  · obtain ⟨k, _, hk⟩ := via_some hp; exact h.pl k p b hk hb
  · obtain ⟨k, h1, hk⟩ := via_some hp
    obtain ⟨k', h1', hk'⟩ := via_some hp'
    refine h.apart k k' p p' b (fun he => hne ?_) hk hk' hb
    subst he
    exact (List.getElem?_inj (List.getElem?_eq_some_iff.1 h1).1 hn).1 (h1.trans h1'.symm)
  · rcases Nat.lt_or_ge j ids.length with hj | hj
    · have hkj : ids[j]? = some ids[j] := List.getElem?_eq_getElem hj
      exact wkB_ok hkj (hH j _ hkj) (h.ok _)
    · rw [getD_none (by rw [← hl]; exact hj)]
      simp only [BlkOK, K.via, List.getElem?_eq_none hj, Option.bind_none]
  · have hid : id < st.k := by
      rcases Nat.lt_or_ge id st.k with h1 | h1
      · exact h1
      · rw [hs.pre id h1] at hp; cases hp
    have hki : ids[id]? = some id := by
      have : (ids.take st.k)[id]? = some id := by rw [hpre.2, List.getElem?_range hid]
      rwa [List.getElem?_take, if_pos hid] at this
    simp only [K.via, hki, Option.bind_some]
    exact h.le id p hp
/-- A nil slice is an own row of none. -/
def wkN (nid : Nat) : List A → List A → Prop
  | [], [] => True
  | x :: xs, y :: ys => (x = y ∨ (x = .own nid ∧ y = .d .nil)) ∧ wkN nid xs ys
  | _, _ => False
theorem wkN_reps {nid : Nat} {m m' : Mp} {S : Nat → Prop} {w : World} (hm : Le m m') (hn : m' nid = some (.arr (.slice none 0 0))) : ∀ {xs ys : List A} {vs : List Value}, wkN nid xs ys → Reps m S w ys vs → Reps m' S w xs vs
  | [], [], vs, _, h => by simpa only [Reps] using h
  | x :: xs, y :: ys, vs, hw, h => by
    simp only [Reps] at h ⊢
    obtain ⟨v, r, rfl, h1, h2⟩ := h
    refine ⟨v, r, rfl, ?_, wkN_reps hm hn hw.2 h2⟩
    rcases hw.1 with rfl | ⟨rfl, rfl⟩
    · exact Rep.mono hm (fun _ h => h) (Keeps.refl S w) _ _ h1
    · simp only [Rep, RepD] at h1
      subst h1
      simp only [Rep, hn]
      exact ⟨trivial, rfl⟩
  | [], _ :: _, _, hw, _ => hw.elim
  | _ :: _, [], _, hw, _ => hw.elim
theorem Weak.own {st st' : St} (nid e sz : Nat) (hnid : st.H.getD nid .unborn = .unborn) (hk : st'.k = st.k) (he : wkN nid st'.env st.env) (hH : st'.H.getD nid .unborn = .arr e sz 0 [])
    (ho : ∀ j, j ≠ nid → st'.H.getD j .unborn = st.H.getD j .unborn ∨ ∃ xs ys, st'.H.getD j .unborn = .box xs ∧ st.H.getD j .unborn = .box ys ∧ wkN nid xs ys) : Weak st st' := by
  intro cx m S a w hs
  have h := hs.hold
  have hn : m nid = none := by have := h.ok nid; rw [hnid] at this; exact this
  have hLe : Le m (updM m nid (.arr (.slice none 0 0))) := fun k q hq => by
    by_cases e1 : k = nid
    · subst e1; rw [hn] at hq; cases hq
    · left; simp only [updM, e1, if_false]; exact hq
  have hnew : updM m nid (.arr (.slice none 0 0)) nid = some (.arr (.slice none 0 0)) := by simp only [updM, if_true]
  have hne : ∀ j, j ≠ nid → updM m nid (.arr (.slice none 0 0)) j = m j := fun j hj => by simp only [updM, hj, if_false]
  have blkNil : ∀ {id p b}, updM m nid (.arr (.slice none 0 0)) id = some p → p.blk = some b → m id = some p := fun {id p b} hp hb => by
    by_cases e1 : id = nid
    · subst e1; rw [hnew] at hp; cases hp; simp [Pl.blk, Value.ownBlock] at hb
    · rw [hne id e1] at hp; exact hp
  refine ⟨_, S, ⟨⟨h.os, h.tape, h.output, h.size, h.old, h.s0, h.s, fun id p b hp hb => h.pl id p b (blkNil hp hb) hb, fun id id' p p' b hd hp hp' hb hb' => h.apart id id' p p' b hd (blkNil hp hb) (blkNil hp' hb') hb hb', fun j => ?_, h.le.trans hLe⟩,
    wkN_reps hLe hnew he hs.env, hs.df, by rw [hk]; exact hs.pre⟩⟩
  by_cases hj : j = nid
  · subst hj
    rw [hH]
    exact ⟨_, hnew, ⟨[], OwnsR.nil w e sz, ⟨rfl, fun i x v hx => by simp at hx⟩, fun v hv => by cases hv⟩, fun g hg => by simp [Value.ownBlock] at hg⟩
  · rcases ho j hj with h1 | ⟨xs, ys, h1, h2, h3⟩
    · rw [h1]
      exact (h.ok j).mono (hne j hj) hLe (fun _ h => h) (Keeps.refl S w) fun p g _ _ => ⟨rfl, fun h => h⟩
    · have hok := h.ok j
      rw [h2] at hok
      obtain ⟨b, cells, T, k1, k2, k3, k4, k5⟩ := hok
      rw [h1]
      exact ⟨b, cells, T, by rw [hne j hj]; exact k1, k2, wkN_reps hLe hnew h3 k3, k4, k5⟩
def Blk.view (H : List Blk) (vids : List Nat) : Blk → Blk
  | .box xs => .box (A.nns (A.views H vids xs))
  | b => b
def frzL (H : List Blk) (vids : List Nat) : List Blk → Nat → List Blk
  | [], _ => []
  | b :: l, k => (match inB vids k with | true => b.frz | false => b.view H vids) :: frzL H vids l (k + 1)
theorem frzL_get {H : List Blk} {vids : List Nat} : ∀ (l : List Blk) (k j : Nat), (frzL H vids l k).getD j .unborn = if (k + j) ∈ vids then (l.getD j .unborn).frz else (l.getD j .unborn).view H vids
  | [], k, j => by simp only [frzL, List.getD_nil]; split <;> rfl
  | b :: l, k, 0 => by
    simp only [frzL, List.getD_cons_zero, Nat.add_zero]
    cases h : inB vids k with
    | true => rw [if_pos (inB_iff.1 h)]
    | false => rw [if_neg (fun hm => by rw [inB_iff.2 hm] at h; cases h)]
  | b :: l, k, j + 1 => by
    simp only [frzL, List.getD_cons_succ]
    rw [frzL_get l (k + 1) j, show k + 1 + j = k + (j + 1) by omega]
/-- Own blocks are frozen: what names them, says what they are. -/
theorem Weak.freeze {st : St} (vids : List Nat) : Weak st ⟨A.nns (A.views st.H vids st.env), frzL st.H vids st.H 0, st.k⟩ := by
  intro cx m S a w hs
  have hf := hs.hold.freeze (vids := vids) (H' := putB st.H (vids.map fun id => (id, (st.H.getD id .unborn).frz))) fun k => by
    rw [getD_putB, lastB_frz]
    by_cases hk : k ∈ vids <;> simp [hk]
  have hle := fzm_le hs.hold vids
  refine ⟨fzm m st.H vids, SV' m S vids, ⟨⟨hf.os, hf.tape, hf.output, hf.size, hf.old, hf.s0, hf.s, hf.pl, hf.apart, fun j => ?_, hf.le⟩, Reps.mono hle (fun _ h => h) (Keeps.refl _ w) _ _ (Reps.nn _ _ (Reps.view hs.hold _ _ hs.env)), hs.df, hs.pre⟩⟩
  have hj := hf.ok j
  rw [getD_putB, lastB_frz] at hj
  simp only [] at hj ⊢
  rw [frzL_get, Nat.zero_add]
  by_cases hk : j ∈ vids
  · rw [if_pos hk] at hj ⊢; exact hj
  · rw [if_neg hk] at hj ⊢
    simp only [Option.getD_none] at hj
    cases hb : st.H.getD j .unborn with
    | box xs =>
      rw [hb] at hj
      obtain ⟨b, cells, T, k1, k2, k3, k4, k5⟩ := hj
      have hok := hs.hold.ok j
      rw [hb] at hok
      obtain ⟨b0, cells0, T0, j1, j2, j3, _⟩ := hok
      have hi : inB vids j = false := by
        cases hi : inB vids j with
        | false => rfl
        | true => exact absurd (inB_iff.1 hi) hk
      have e1 : m j = some (.box b) := by simpa only [fzm, hi] using k1
      rw [j1] at e1; cases e1
      rw [j2] at k2; cases k2
      exact ⟨b, cells, T, k1, j2, Reps.mono hle (fun _ h => h) (Keeps.refl _ w) _ _ (Reps.nn _ _ (Reps.view hs.hold _ _ j3)), k4, k5⟩
    | unborn => rw [hb] at hj; exact hj
    | gone => rw [hb] at hj; exact hj
    | arr e sz n xs => rw [hb] at hj; exact hj
    | fro e sz n xs => rw [hb] at hj; exact hj

/-! ### parts -/
def boundA (st : St) (dflt : Nat) : Option Operand → Nat → Prop
  | none, l => l = dflt
  | some y, l => ∃ k : IntKind, ∃ v : Int, opA st y = .d (.lit (.int k v)) ∧ v = l
def boundV (a : Act) (dflt : Nat) : Option Operand → Nat → Prop
  | none, l => l = dflt
  | some y, l => ∃ k, a.eval y = .int k l
section
variable {P : Program} {o : Oper} {st : St}
theorem op_slice_str {t : TypeId} {x : Operand} {lo hi : Option Operand} {s : ByteArray} {l h : Nat} (ho : o.op = .slice t x lo hi none) (hu : P.underlying t = some .string) (hx : opA st x = .d (.lit (.string s)))
    (hlo : boundA st 0 lo l) (hhi : boundA st s.size hi h) (h1 : l ≤ h) (h2 : h ≤ s.size) :
    OpRun P o st (locsOf (x :: (lo.toList ++ hi.toList))) (.d (.lit (.string (s.extract l h)))) [] := by
  refine .pure fun st' hl cx m S a w hs => ⟨.string (s.extract l h), ?_, by simp only [Rep]; unfold RepD; exact ⟨rfl, rfl⟩⟩
  have e1 := op_lit hx (R := locsOf (x :: (lo.toList ++ hi.toList))) (fun l h => by simp [locsOf, h]) hl hs
  have g1 : (0 : Int) ≤ l ∧ (l : Int) ≤ h := by omega
  have g2 : (0 : Int) ≤ h ∧ (h : Int) ≤ s.size := by omega
  cases lo with
  | none =>
    simp only [boundA, boundV] at hlo; subst hlo
    cases hi with
    | none => simp only [boundA, boundV] at hhi; subst hhi; simp [execOp, ho, Instr.sliceAt, Instr.slice, run_underlying hu, e1, Instr.sliceBounds]
    | some y =>
      obtain ⟨k, v, h3, rfl⟩ := hhi
      have e2 := op_lit h3 (R := locsOf (x :: ((none : Option Operand).toList ++ (some y).toList))) (fun l h => by simp [locsOf, h]) hl hs
      simp [execOp, ho, Instr.sliceAt, Instr.slice, run_underlying hu, e1, e2, Instr.sliceBounds, Instr.sliceBound, asIntOf, h2]
  | some z =>
    obtain ⟨k, v, h3, rfl⟩ := hlo
    have e3 := op_lit h3 (R := locsOf (x :: ((some z).toList ++ hi.toList))) (fun l h => by simp [locsOf, h]) hl hs
    cases hi with
    | none => simp only [boundA, boundV] at hhi; subst hhi; simp [execOp, ho, Instr.sliceAt, Instr.slice, run_underlying hu, e1, e3, Instr.sliceBounds, Instr.sliceBound, asIntOf, h1]
    | some y =>
      obtain ⟨k, v, h4, rfl⟩ := hhi
      have e2 := op_lit h4 (R := locsOf (x :: ((some z).toList ++ (some y).toList))) (fun l h => by simp [locsOf, h]) hl hs
      simp [execOp, ho, Instr.sliceAt, Instr.slice, run_underlying hu, e1, e2, e3, Instr.sliceBounds, Instr.sliceBound, asIntOf, h1, h2]
/-- A part of a slice. -/
def partA (l h sz : Nat) (ds : List D) (off : Nat) : A → A
  | .own id => .sub id (l * sz) (h - l)
  | .sub id o _ => .sub id (o + l * sz) (h - l)
  | _ => .d (.sl (h - l) ((ds.drop (off + l * sz)).take ((h - l) * sz)))
theorem run_slice {t e sz : Nat} {x : Operand} {lo hi : Option Operand} {a : Act} {w : World} {p : Option Addr} {n cap l h : Nat} (ho : o.op = .slice t x lo hi none) (he : sliceElem P t = some (e, sz)) (hx : a.eval x = .slice p n cap)
    (hlo : boundV a 0 lo l) (hhi : boundV a n hi h) (h1 : l ≤ h) (h2 : h ≤ cap) :
    (execOp a.eval o).run P w = .ok (.value (.slice (if cap = l then p else p.map (·.add (l * sz))) (h - l) (cap - l))) w := by
  obtain ⟨hu, inf, hinf, hsz⟩ := sliceElem_spec he
  cases lo with
  | none =>
    simp only [boundA, boundV] at hlo; subst hlo
    cases hi with
    | none => simp only [boundA, boundV] at hhi; subst hhi; simp [execOp, ho, Instr.sliceAt, Instr.slice, run_underlying hu, hx, Instr.sliceBounds, sizeOf, typeInfo, hinf, hsz]
    | some y =>
      obtain ⟨k, h3⟩ := hhi
      simp [execOp, ho, Instr.sliceAt, Instr.slice, run_underlying hu, hx, h3, Instr.sliceBounds, Instr.sliceBound, asIntOf, h2, sizeOf, typeInfo, hinf, hsz]
  | some z =>
    obtain ⟨k, h3⟩ := hlo
    cases hi with
    | none => simp only [boundA, boundV] at hhi; subst hhi; simp [execOp, ho, Instr.sliceAt, Instr.slice, run_underlying hu, hx, h3, Instr.sliceBounds, Instr.sliceBound, asIntOf, h1, sizeOf, typeInfo, hinf, hsz]
    | some y =>
      obtain ⟨k, h4⟩ := hhi
      simp [execOp, ho, Instr.sliceAt, Instr.slice, run_underlying hu, hx, h3, h4, Instr.sliceBounds, Instr.sliceBound, asIntOf, h1, h2, sizeOf, typeInfo, hinf, hsz]
theorem op_slice {t e sz : Nat} {x : Operand} {lo hi : Option Operand} {y : A} {ds : List D} {off n l h : Nat} (ho : o.op = .slice t x lo hi none) (he : sliceElem P t = some (e, sz)) (hx : opA st x = y) (hy : sliceAt st.H y = some (ds, off, n))
    (hlo : boundA st 0 lo l) (hhi : boundA st n hi h) (h1 : l ≤ h) (h2 : h ≤ n) (h3 : l < n ∨ l = 0)
    (hown : match y with | .own id => l * sz < ds.length | .sub _ _ _ => True | .d _ => off + h * sz ≤ ds.length | _ => False) :
    OpRun P o st (locsOf (x :: (lo.toList ++ hi.toList)) ++ locA y) (partA l h sz ds off y) [] := by
  refine .pure fun st' hag cx m S a w hs => ?_
  have hr := op_rep hx (R := locsOf (x :: (lo.toList ++ hi.toList)) ++ locA y) (fun l h => by simp [locsOf, h]) hag hs
  have hy0 := hy
  rw [← sliceA_agree fun l h => hag l (by simp [h])] at hy
  obtain ⟨p, cap, hv, k1, k2, k3, k4⟩ := sliceAt_spec hs.hold hy hr
  have hlo' : boundV a 0 lo l := by
    cases lo with
    | none => exact hlo
    | some z => obtain ⟨k, v, q1, rfl⟩ := hlo; exact ⟨k, op_lit q1 (R := locsOf (x :: ((some z).toList ++ hi.toList)) ++ locA y) (fun l h => by simp [locsOf, h]) hag hs⟩
  have hhi' : boundV a n hi h := by
    cases hi with
    | none => exact hhi
    | some z =>
      obtain ⟨k, v, q1, rfl⟩ := hhi
      refine ⟨k, op_lit q1 (R := locsOf (x :: (lo.toList ++ (some z).toList)) ++ locA y) (fun l h => ?_) hag hs⟩
      have : l ∈ locsOf (x :: (lo.toList ++ [z])) := locs_mem (by simp) l h
      simp only [Option.toList_some, List.mem_append]; exact .inl this
  refine ⟨_, run_slice ho he hv hlo' hhi' h1 (by omega), ?_⟩
  have hadd : ∀ g o, p = some ⟨g, o, none⟩ → (if cap = l then p else p.map (·.add (l * sz))) = some ⟨g, o + l * sz, none⟩ := fun g o hp => by
    subst hp
    split
    · rename_i hc
      have : l = 0 := by omega
      subst this; simp
    · simp [addr_add]
  cases y with
  | own id =>
    simp only [Rep, partA] at hr ⊢
    have hok := hs.hold.ok id
    simp only [sliceAt] at hy
    have fin : ∀ {e sz' n' ds'} {v' : Value}, m id = some (.arr v') → RowOK S w e sz' n' ds' v' → ds'.length = ds.length → (match m id with
        | none => False
        | some .gone => (Value.slice (if cap = l then p else p.map (·.add (l * sz))) (h - l) (cap - l)).oneCell' = true
        | some (.box _) => False
        | some (.arr v) => ∃ g cap', v.ownBlock = some g ∧ Value.slice (if cap = l then p else p.map (·.add (l * sz))) (h - l) (cap - l) = .slice (some ⟨g, l * sz, none⟩) (h - l) cap' ∧ h - l ≤ cap' ∧ cap' ≤ maxLen) := fun {e sz' n' ds'} {v'} h5 h6 hdl => by
      rw [h5] at hr ⊢
      simp only at hr ⊢
      obtain ⟨a', cap', r1, r2, r3, r4, r5, r6⟩ := row_slice h6
      rw [← hr.1, hv] at r1
      simp only [Value.slice.injEq] at r1
      obtain ⟨r7, r8, r9⟩ := r1
      cases p with
      | none =>
        exfalso
        obtain ⟨h7, _⟩ := k3 rfl
        obtain ⟨cells, ⟨hl, q⟩, hrr, _⟩ := h6
        rcases q with ⟨_, q⟩ | ⟨g, c, cur, q, _⟩
        · rw [q, Nat.zero_mul] at hl
          have := hrr.1; omega
        · rw [← hr.1, hv] at q; cases q
      | some q =>
        obtain ⟨g, hq, hg⟩ := r6 q r7.symm
        subst hq
        exact ⟨g, cap - l, hg, by rw [hadd g 0 rfl, Nat.zero_add], by omega, by omega⟩
    split at hy
    · rename_i e' sz' n' ds' hb
      cases hy
      rw [hb] at hok
      obtain ⟨v', h5, h6, _⟩ := hok
      exact fin h5 h6 rfl
    · rename_i e' sz' n' ds' hb
      cases hy
      rw [hb] at hok
      obtain ⟨v', h5, h6, _⟩ := hok
      exact fin h5 h6 rfl
    · cases hy
  | sub id o n' =>
    simp only [Rep, partA] at hr ⊢
    cases hm : m id with
    | none => rw [hm] at hr; exact hr.elim
    | some q =>
      rw [hm] at hr
      cases q with
      | gone => rfl
      | box b => exact hr.elim
      | arr v' =>
        obtain ⟨g, cap', hg, hev, _⟩ := hr
        rw [hv] at hev
        simp only [Value.slice.injEq] at hev
        exact ⟨g, cap - l, hg, by rw [hadd g o hev.1], by omega, by omega⟩
  | d x =>
    simp only [Rep, partA]
    unfold RepD
    refine ⟨_, _, rfl, by omega, by omega, fun hp => ?_, ?_⟩
    · cases p with
      | none => obtain ⟨h4, h5⟩ := k3 rfl; omega
      | some q => split at hp <;> cases hp
    · have hd : ∀ (q : Addr), p = some q → RepDs S w ds (some q) 0 → RepDs S w ((ds.drop (off + l * sz)).take ((h - l) * sz)) (if cap = l then p else p.map (·.add (l * sz))) 0 := fun q hq hrd => by
        cases x with
        | sl n' cs =>
          simp only [sliceAt] at hy0; cases hy0
          rw [Nat.zero_add]
          subst hq
          split
          · have : l = 0 := by omega
            subst this
            simpa using hrd.take (h * sz)
          · exact (hrd.drop _).take _
        | nil => simp only [sliceAt] at hy0; cases hy0; simp only [List.drop_nil, List.take_nil, RepDs]
        | lit v => cases hy0
        | ref cs => cases hy0
        | slc n cs => cases hy0
      cases x with
      | sl n' cs =>
        simp only [sliceAt] at hy0; cases hy0
        simp only [Rep, RepD] at hr
        obtain ⟨a', cap', q1, _, _, _, q2⟩ := hr
        rw [hv] at q1
        simp only [Value.slice.injEq] at q1
        cases p with
        | some q => exact hd q rfl (by rw [← q1.1] at q2; exact q2)
        | none =>
          obtain ⟨h4, _⟩ := k3 rfl
          have : (h - l) * sz = 0 := by rw [show h - l = 0 by omega, Nat.zero_mul]
          rw [this]; simp only [List.take_zero, RepDs]
      | nil => simp only [sliceAt] at hy0; cases hy0; simp only [List.drop_nil, List.take_nil, RepDs]
      | lit v => cases hy0
      | ref cs => cases hy0
      | slc n cs => cases hy0
  | _ => exact hown.elim
end
end Go.Proofs.Ytdpmojhejidhiaa.K
