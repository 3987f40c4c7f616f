/- What one may forget; parts of slices, of structs, of texts. -/
import Derived.Test.YtelhmhmgaaebpaaZReg
import Derived.IntWalk
import Derived.Laws.AppendOwnNone
import Derived.Laws.IdiomStrings
import Derived.Laws.StructEq
import Derived.ProofKit
import Derived.OpenShut
import Derived.ShutString
import Derived.ChangeOld
import Derived.Carry
import Derived.DataElems
import Derived.Test.YtelhmhmgaaebpaaProg
import Derived.ScopeJumps
import Derived.ChangeKeysEq
import Derived.Lib.AppendZeros
import Derived.Test.YtelhmhmgaaebpaaChecked
import Derived.WalkKit
import Derived.Deep.LoopGhost
import Derived.Deep.RegionLaw
import Derived.Lib.Walk
import Derived.Sort.WalkB12
import Derived.Lib.SliceRun
set_option linter.unusedVariables false
set_option linter.unusedSimpArgs false
namespace Go.Proofs.Ytelhmhmgaaebpaa.K
open Go.RowKit Go.Lib

/-! ### forgetting, other names -/
def wkL (ids : List Nat) : List A → List A → Prop
  | [], [] => True
  | x :: xs, y :: ys => (x = .top ∨ x.ren ids = some y) ∧ wkL ids xs ys
  | _, _ => False
def wkB (ids : List Nat) : Blk → Blk → Prop
  | .box xs, .box ys => wkL ids xs ys
  | b, b' => b.ren ids = some b'
theorem wkL_reps {ids : List Nat} {m : Mp} {S : Nat → Prop} {w : World} : ∀ {xs ys : List A} {vs : List Value}, wkL ids xs ys → Reps m S w ys vs → Reps (via ids m) S w xs vs
  | [], [], vs, _, h => by simpa only [Reps] using h
  | x :: xs, y :: ys, vs, hw, h => by
    simp only [Reps] at h ⊢
    obtain ⟨v, r, rfl, h1, h2⟩ := h
    refine ⟨v, r, rfl, ?_, wkL_reps hw.2 h2⟩
    rcases hw.1 with rfl | he
    · simp only [Rep]
    · exact (Rep.via x y v he).2 h1
  | [], _ :: _, _, hw, _ => hw.elim
  | _ :: _, [], _, hw, _ => hw.elim
theorem wkB_ok {ids : List Nat} {m : Mp} {S : Nat → Prop} {w : World} {j k : Nat} {b b' : Blk} (hk : ids[j]? = some k) (hw : wkB ids b b') (h : BlkOK m S w k b') : BlkOK (via ids m) S w j b := by
  have gen : b.ren ids = some b' → BlkOK (via ids m) S w j b := fun hr => (BlkOK.via hk hr).2 h
  cases b with
  | box xs =>
    cases b' with
    | box ys =>
      obtain ⟨b, cells, T, h1, h2, h3, h4, h5⟩ := h
      exact ⟨b, cells, T, by simp [K.via, hk, h1], h2, wkL_reps hw h3, h4, h5⟩
    | _ => exact gen hw
  | _ => exact gen hw
/-- The state st' says no more than st: its block j is the block ids[j] there. -/
theorem Weak.to {st st' : St} (ids : List Nat) (hk : st'.k = st.k) (hn : ids.Nodup) (hl : ids.length = st'.H.length) (hpre : st.k ≤ ids.length ∧ ids.take st.k = List.range st.k)
    (hH : ∀ (j i : Nat), ids[j]? = some i → wkB ids (st'.H.getD j .unborn) (st.H.getD i .unborn)) (he : wkL ids st'.env st.env) : Weak st st' := by
  intro cx m S a w hs
  have h := hs.hold
  refine ⟨via ids m, S, ⟨⟨h.os, h.tape, h.output, h.size, h.old, h.s0, h.s, fun id p b hp hb => ?_, fun id id' p p' b hne hp hp' hb => ?_, fun j => ?_, fun id p hp => ?_⟩, wkL_reps he hs.env, hs.df, by rw [hk]; exact hs.pre⟩⟩
  · obtain ⟨k, _, hk⟩ := via_some hp; exact h.pl k p b hk hb
  · obtain ⟨k, h1, hk⟩ := via_some hp
    obtain ⟨k', h1', hk'⟩ := via_some hp'
    refine h.apart k k' p p' b (fun he => hne ?_) hk hk' hb
    subst he
    exact (List.getElem?_inj (List.getElem?_eq_some_iff.1 h1).1 hn).1 (h1.trans h1'.symm)
  · rcases Nat.lt_or_ge j ids.length with hj | hj
    · have hkj : ids[j]? = some ids[j] := List.getElem?_eq_getElem hj
      exact wkB_ok hkj (hH j _ hkj) (h.ok _)
    · rw [getD_none (by rw [← hl]; exact hj)]
      simp only [BlkOK, K.via, List.getElem?_eq_none hj, Option.bind_none]
  · have hid : id < st.k := by
      rcases Nat.lt_or_ge id st.k with h1 | h1
      · exact h1
      · rw [hs.pre id h1] at hp; cases hp
    have hki : ids[id]? = some id := by
      have : (ids.take st.k)[id]? = some id := by rw [hpre.2, List.getElem?_range hid]
      rwa [List.getElem?_take, if_pos hid] at this
    simp only [K.via, hki, Option.bind_some]
    exact h.le id p hp
/-- A nil slice is an own row of none. -/
def wkN (nid : Nat) : List A → List A → Prop
  | [], [] => True
  | x :: xs, y :: ys => (x = y ∨ (x = .own nid ∧ y = .d .nil)) ∧ wkN nid xs ys
  | _, _ => False
theorem wkN_reps {nid : Nat} {m m' : Mp} {S : Nat → Prop} {w : World} (hm : Le m m') (hn : m' nid = some (.arr (.slice none 0 0))) : ∀ {xs ys : List A} {vs : List Value}, wkN nid xs ys → Reps m S w ys vs → Reps m' S w xs vs
  | [], [], vs, _, h => by simpa only [Reps] using h
  | x :: xs, y :: ys, vs, hw, h => by
    simp only [Reps] at h ⊢
    obtain ⟨v, r, rfl, h1, h2⟩ := h
    refine ⟨v, r, rfl, ?_, wkN_reps hm hn hw.2 h2⟩
    rcases hw.1 with rfl | ⟨rfl, rfl⟩
    · exact Rep.mono hm (fun _ h => h) (Keeps.refl S w) _ _ h1
    · simp only [Rep, RepD] at h1
      subst h1
      simp only [Rep, hn]
      exact ⟨trivial, rfl⟩
  | [], _ :: _, _, hw, _ => hw.elim
  | _ :: _, [], _, hw, _ => hw.elim
theorem Weak.own {st st' : St} (nid e sz : Nat) (hnid : st.H.getD nid .unborn = .unborn) (hk : st'.k = st.k) (he : wkN nid st'.env st.env) (hH : st'.H.getD nid .unborn = .arr e sz 0 [])
    (ho : ∀ j, j ≠ nid → st'.H.getD j .unborn = st.H.getD j .unborn ∨ ∃ xs ys, st'.H.getD j .unborn = .box xs ∧ st.H.getD j .unborn = .box ys ∧ wkN nid xs ys) : Weak st st' := by
  intro cx m S a w hs
  have h := hs.hold
  have hn : m nid = none := by have := h.ok nid; rw [hnid] at this; exact this
  have hLe : Le m (updM m nid (.arr (.slice none 0 0))) := fun k q hq => by
    by_cases e1 : k = nid
    · subst e1; rw [hn] at hq; cases hq
    · left; simp only [updM, e1, if_false]; exact hq
  have hnew : updM m nid (.arr (.slice none 0 0)) nid = some (.arr (.slice none 0 0)) := by simp only [updM, if_true]
  have hne : ∀ j, j ≠ nid → updM m nid (.arr (.slice none 0 0)) j = m j := fun j hj => by simp only [updM, hj, if_false]
  have blkNil : ∀ {id p b}, updM m nid (.arr (.slice none 0 0)) id = some p → p.blk = some b → m id = some p := fun {id p b} hp hb => by
    by_cases e1 : id = nid
    · subst e1; rw [hnew] at hp; cases hp; simp [Pl.blk, Value.ownBlock] at hb
    · rw [hne id e1] at hp; exact hp
  refine ⟨_, S, ⟨⟨h.os, h.tape, h.output, h.size, h.old, h.s0, h.s, fun id p b hp hb => h.pl id p b (blkNil hp hb) hb, fun id id' p p' b hd hp hp' hb hb' => h.apart id id' p p' b hd (blkNil hp hb) (blkNil hp' hb') hb hb', fun j => ?_, h.le.trans hLe⟩,
    wkN_reps hLe hnew he hs.env, hs.df, by rw [hk]; exact hs.pre⟩⟩
  by_cases hj : j = nid
  · subst hj
    rw [hH]
    exact ⟨_, hnew, ⟨[], OwnsR.nil w e sz, ⟨rfl, fun i x v hx => by simp at hx⟩, fun v hv => by cases hv⟩, fun g hg => by simp [Value.ownBlock] at hg⟩
  · rcases ho j hj with h1 | ⟨xs, ys, h1, h2, h3⟩
    · rw [h1]
      exact (h.ok j).mono (hne j hj) hLe (fun _ h => h) (Keeps.refl S w) fun p g _ _ => ⟨rfl, fun h => h⟩
    · have hok := h.ok j
      rw [h2] at hok
      obtain ⟨b, cells, T, k1, k2, k3, k4, k5⟩ := hok
      rw [h1]
      exact ⟨b, cells, T, by rw [hne j hj]; exact k1, k2, wkN_reps hLe hnew h3 k3, k4, k5⟩
def Blk.view (H : List Blk) (vids : List Nat) : Blk → Blk
  | .box xs => .box (A.nns (A.views H vids xs))
  | b => b
def frzL (H : List Blk) (vids : List Nat) : List Blk → Nat → List Blk
  | [], _ => []
  | b :: l, k => (match inB vids k with | true => b.frz | false => b.view H vids) :: frzL H vids l (k + 1)
theorem frzL_get {H : List Blk} {vids : List Nat} : ∀ (l : List Blk) (k j : Nat), (frzL H vids l k).getD j .unborn = if (k + j) ∈ vids then (l.getD j .unborn).frz else (l.getD j .unborn).view H vids
  | [], k, j => by simp only [frzL, List.getD_nil]; split <;> rfl
  | b :: l, k, 0 => by
    simp only [frzL, List.getD_cons_zero, Nat.add_zero]
    cases h : inB vids k with
    | true => rw [if_pos (inB_iff.1 h)]
    | false => rw [if_neg (fun hm => by rw [inB_iff.2 hm] at h; cases h)]
  | b :: l, k, j + 1 => by
    simp only [frzL, List.getD_cons_succ]
    rw [frzL_get l (k + 1) j, show k + 1 + j = k + (j + 1) by omega]
/-- Own blocks are frozen: what names them, says what they are. -/
theorem Weak.freeze {st : St} (vids : List Nat) : Weak st ⟨A.nns (A.views st.H vids st.env), frzL st.H vids st.H 0, st.k⟩ := by
  intro cx m S a w hs
  have hf := hs.hold.freeze (vids := vids) (H' := putB st.H (vids.map fun id => (id, (st.H.getD id .unborn).frz))) fun k => by
    rw [getD_putB, lastB_frz]
    by_cases hk : k ∈ vids <;> simp [hk]
  have hle := fzm_le hs.hold vids
  refine ⟨fzm m st.H vids, SV' m S vids, ⟨⟨hf.os, hf.tape, hf.output, hf.size, hf.old, hf.s0, hf.s, hf.pl, hf.apart, fun j => ?_, hf.le⟩, Reps.mono hle (fun _ h => h) (Keeps.refl _ w) _ _ (Reps.nn _ _ (Reps.view hs.hold _ _ hs.env)), hs.df, hs.pre⟩⟩
  have hj := hf.ok j
  rw [getD_putB, lastB_frz] at hj
  simp only [] at hj ⊢
  rw [frzL_get, Nat.zero_add]
  by_cases hk : j ∈ vids
  · rw [if_pos hk] at hj ⊢; exact hj
  · rw [if_neg hk] at hj ⊢
    simp only [Option.getD_none] at hj
    cases hb : st.H.getD j .unborn with
    | box xs =>
      rw [hb] at hj
      obtain ⟨b, cells, T, k1, k2, k3, k4, k5⟩ := hj
      have hok := hs.hold.ok j
      rw [hb] at hok
      obtain ⟨b0, cells0, T0, j1, j2, j3, _⟩ := hok
      have hi : inB vids j = false := by
        cases hi : inB vids j with
        | false => rfl
        | true => exact absurd (inB_iff.1 hi) hk
      have e1 : m j = some (.box b) := by simpa only [fzm, hi] using k1
      rw [j1] at e1; cases e1
      rw [j2] at k2; cases k2
      exact ⟨b, cells, T, k1, j2, Reps.mono hle (fun _ h => h) (Keeps.refl _ w) _ _ (Reps.nn _ _ (Reps.view hs.hold _ _ j3)), k4, k5⟩
    | unborn => rw [hb] at hj; exact hj
    | gone => rw [hb] at hj; exact hj
    | arr e sz n xs => rw [hb] at hj; exact hj
    | fro e sz n xs => rw [hb] at hj; exact hj
    | rows e sz n xs kq aq => rw [hb] at hj; exact hj
    | mp ks cs => rw [hb] at hj; exact hj

/-! ### parts -/
def boundA (st : St) (dflt : Nat) : Option Operand → Nat → Prop
  | none, l => l = dflt
  | some y, l => ∃ k : IntKind, ∃ v : Int, opA st y = .d (.lit (.int k v)) ∧ v = l
def boundV (a : Act) (dflt : Nat) : Option Operand → Nat → Prop
  | none, l => l = dflt
  | some y, l => ∃ k, a.eval y = .int k l
section
variable {P : Program} {o : Oper} {st : St}
/-- A part of a slice. -/
def partA (l h sz : Nat) (ds : List D) (off : Nat) : A → A
  | .own id => .sub id (l * sz) (h - l)
  | .sub id o _ => .sub id (o + l * sz) (h - l)
  | _ => .d (.sl (h - l) ((ds.drop (off + l * sz)).take ((h - l) * sz)))
theorem run_slice {t e sz : Nat} {x : Operand} {lo hi : Option Operand} {a : Act} {w : World} {p : Option Addr} {n cap l h : Nat} (ho : o.op = .slice t x lo hi none) (he : sliceElem P t = some (e, sz)) (hx : a.eval x = .slice p n cap)
    (hlo : boundV a 0 lo l) (hhi : boundV a n hi h) (h1 : l ≤ h) (h2 : h ≤ cap) :
    (execOp a.eval o).run P w = .ok (.value (.slice (if cap = l then p else p.map (·.add (l * sz))) (h - l) (cap - l))) w := by
  obtain ⟨hu, inf, hinf, hsz⟩ := sliceElem_spec he
  cases lo with
  | none =>
    simp only [boundA, boundV] at hlo; subst hlo
    cases hi with
    | none => simp only [boundA, boundV] at hhi; subst hhi; simp [execOp, ho, Instr.sliceAt, Instr.slice, run_underlying hu, hx, Instr.sliceBounds, sizeOf, typeInfo, hinf, hsz]
    | some y =>
      obtain ⟨k, h3⟩ := hhi
      simp [execOp, ho, Instr.sliceAt, Instr.slice, run_underlying hu, hx, h3, Instr.sliceBounds, Instr.sliceBound, asIntOf, h2, sizeOf, typeInfo, hinf, hsz]
  | some z =>
    obtain ⟨k, h3⟩ := hlo
    cases hi with
    | none => simp only [boundA, boundV] at hhi; subst hhi; simp [execOp, ho, Instr.sliceAt, Instr.slice, run_underlying hu, hx, h3, Instr.sliceBounds, Instr.sliceBound, asIntOf, h1, sizeOf, typeInfo, hinf, hsz]
    | some y =>
      obtain ⟨k, h4⟩ := hhi
      simp [execOp, ho, Instr.sliceAt, Instr.slice, run_underlying hu, hx, h3, h4, Instr.sliceBounds, Instr.sliceBound, asIntOf, h1, h2, sizeOf, typeInfo, hinf, hsz]
theorem op_slice {t e sz : Nat} {x : Operand} {lo hi : Option Operand} {y : A} {ds : List D} {off n l h : Nat} (ho : o.op = .slice t x lo hi none) (he : sliceElem P t = some (e, sz)) (hx : opA st x = y) (hy : sliceAt st.H y = some (ds, off, n))
    (hlo : boundA st 0 lo l) (hhi : boundA st n hi h) (h1 : l ≤ h) (h2 : h ≤ n) (h3 : l < n ∨ l = 0)
    (hown : match y with | .own id => l * sz < ds.length | .sub _ _ _ => True | .d _ => off + h * sz ≤ ds.length | _ => False) :
    OpRun P o st (locsOf (x :: (lo.toList ++ hi.toList)) ++ locA y) (partA l h sz ds off y) [] := by
  refine .pure fun st' hag cx m S a w hs => ?_
  have hr := op_rep hx (R := locsOf (x :: (lo.toList ++ hi.toList)) ++ locA y) (fun l h => by simp [locsOf, h]) hag hs
  have hy0 := hy
  rw [← sliceA_agree fun l h => hag l (by simp [h])] at hy
  obtain ⟨p, cap, hv, k1, k2, k3, k4⟩ := sliceAt_spec hs.hold hy hr
  have hlo' : boundV a 0 lo l := by
    cases lo with
    | none => exact hlo
    | some z => obtain ⟨k, v, q1, rfl⟩ := hlo; exact ⟨k, op_lit q1 (R := locsOf (x :: ((some z).toList ++ hi.toList)) ++ locA y) (fun l h => by simp [locsOf, h]) hag hs⟩
  have hhi' : boundV a n hi h := by
    cases hi with
    | none => exact hhi
    | some z =>
      obtain ⟨k, v, q1, rfl⟩ := hhi
      refine ⟨k, op_lit q1 (R := locsOf (x :: (lo.toList ++ (some z).toList)) ++ locA y) (fun l h => ?_) hag hs⟩
      have : l ∈ locsOf (x :: (lo.toList ++ [z])) := locs_mem (by simp) l h
      simp only [Option.toList_some, List.mem_append]; exact .inl this
  refine ⟨_, run_slice ho he hv hlo' hhi' h1 (by omega), ?_⟩
  have hadd : ∀ g o, p = some ⟨g, o, none⟩ → (if cap = l then p else p.map (·.add (l * sz))) = some ⟨g, o + l * sz, none⟩ := fun g o hp => by
    subst hp
    split
    · rename_i hc
      have : l = 0 := by omega
      subst this; simp
    · simp [addr_add]
  cases y with
  | own id =>
    simp only [Rep, partA] at hr ⊢
    have hok := hs.hold.ok id
    simp only [sliceAt] at hy
    have fin : ∀ {e sz' n' ds'} {v' : Value}, m id = some (.arr v') → RowOK S w e sz' n' ds' v' → ds'.length = ds.length → (match m id with
        | none => False
        | some .gone => (Value.slice (if cap = l then p else p.map (·.add (l * sz))) (h - l) (cap - l)).oneCell' = true
        | some (.box _) => False
        | some (.arr v) => ∃ g cap', v.ownBlock = some g ∧ Value.slice (if cap = l then p else p.map (·.add (l * sz))) (h - l) (cap - l) = .slice (some ⟨g, l * sz, none⟩) (h - l) cap' ∧ h - l ≤ cap' ∧ cap' ≤ maxLen
        | some (.mp _) => False) := fun {e sz' n' ds'} {v'} h5 h6 hdl => by
      rw [h5] at hr ⊢
      simp only at hr ⊢
      obtain ⟨a', cap', r1, r2, r3, r4, r5, r6⟩ := row_slice h6
      rw [← hr.1, hv] at r1
      simp only [Value.slice.injEq] at r1
      obtain ⟨r7, r8, r9⟩ := r1
      cases p with
      | none =>
        exfalso
        obtain ⟨h7, _⟩ := k3 rfl
        obtain ⟨cells, ⟨hl, q⟩, hrr, _⟩ := h6
        rcases q with ⟨_, q⟩ | ⟨g, c, cur, q, _⟩
        · rw [q, Nat.zero_mul] at hl
          have := hrr.1; omega
        · rw [← hr.1, hv] at q; cases q
      | some q =>
        obtain ⟨g, hq, hg⟩ := r6 q r7.symm
        subst hq
        exact ⟨g, cap - l, hg, by rw [hadd g 0 rfl, Nat.zero_add], by omega, by omega⟩
    split at hy
    · rename_i e' sz' n' ds' hb
      cases hy
      rw [hb] at hok
      obtain ⟨v', h5, h6, _⟩ := hok
      exact fin h5 h6 rfl
    · rename_i e' sz' n' ds' hb
      cases hy
      rw [hb] at hok
      obtain ⟨v', h5, h6, _⟩ := hok
      exact fin h5 h6 rfl
    · cases hy
  | sub id o n' =>
    simp only [Rep, partA] at hr ⊢
    cases hm : m id with
    | none => rw [hm] at hr; exact hr.elim
    | some q =>
      rw [hm] at hr
      cases q with
      | gone => rfl
      | box b => exact hr.elim
      | arr v' =>
        obtain ⟨g, cap', hg, hev, _⟩ := hr
        rw [hv] at hev
        simp only [Value.slice.injEq] at hev
        exact ⟨g, cap - l, hg, by rw [hadd g o hev.1], by omega, by omega⟩
      | mp b => exact hr.elim
  | d x =>
    simp only [Rep, partA]
    unfold RepD
    refine ⟨_, _, rfl, by omega, by omega, fun hp => ?_, ?_⟩
    · cases p with
      | none => obtain ⟨h4, h5⟩ := k3 rfl; omega
      | some q => split at hp <;> cases hp
    · have hd : ∀ (q : Addr), p = some q → RepDs S w ds (some q) 0 → RepDs S w ((ds.drop (off + l * sz)).take ((h - l) * sz)) (if cap = l then p else p.map (·.add (l * sz))) 0 := fun q hq hrd => by
        cases x with
        | sl n' cs =>
          simp only [sliceAt] at hy0; cases hy0
          rw [Nat.zero_add]
          subst hq
          split
          · have : l = 0 := by omega
            subst this
            simpa using hrd.take (h * sz)
          · exact (hrd.drop _).take _
        | nil => simp only [sliceAt] at hy0; cases hy0; simp only [List.drop_nil, List.take_nil, RepDs]
        | lit v => cases hy0
        | ref cs => cases hy0
        | slc n cs => cases hy0
        | mp nl ks cs => cases hy0
      cases x with
      | sl n' cs =>
        simp only [sliceAt] at hy0; cases hy0
        simp only [Rep, RepD] at hr
        obtain ⟨a', cap', q1, _, _, _, q2⟩ := hr
        rw [hv] at q1
        simp only [Value.slice.injEq] at q1
        cases p with
        | some q => exact hd q rfl (by rw [← q1.1] at q2; exact q2)
        | none =>
          obtain ⟨h4, _⟩ := k3 rfl
          have : (h - l) * sz = 0 := by rw [show h - l = 0 by omega, Nat.zero_mul]
          rw [this]; simp only [List.take_zero, RepDs]
      | nil => simp only [sliceAt] at hy0; cases hy0; simp only [List.drop_nil, List.take_nil, RepDs]
      | lit v => cases hy0
      | ref cs => cases hy0
      | slc n cs => cases hy0
      | mp nl ks cs => cases hy0
  | _ => exact hown.elim
end
end Go.Proofs.Ytelhmhmgaaebpaa.K

namespace Go.Proofs.Ytelhmhmgaaebpaa.K
open Go.RowKit Go.Lib

section
variable {P : Program} {ops : Array Oper} {K : St → List Ef → Prop} {o : Oper} {l : List Oper} {st : St} {F : List Ef}
theorem Walk.nil (h : K st F) : Walk P ops K [] st F := h
theorem Walk.no (hg : gNo ops st o = true) (h : Walk P ops K l (st.put o.dst (.tup []) []) (F ++ [⟨o.dst, .tup [], [], gLoc ops o⟩])) : Walk P ops K (o :: l) st F := .inl ⟨hg, h⟩
theorem Walk.yes {R : List Loc} {val : A} {bl : List (Nat × Blk)} (hg : gYes ops st o = true) (hop : OpRun P o st R val bl) (h : Walk P ops K l (st.put o.dst val bl) (F ++ [⟨o.dst, val, bl, gLoc ops o ++ R⟩])) : Walk P ops K (o :: l) st F := .inr ⟨hg, R, val, bl, hop, h⟩
/-- The same state, written out. -/
theorem Walk.to_ {st' : St} (e : st = st') (h : Walk P ops K l st' F) : Walk P ops K l st F := e ▸ h
end
section
variable {P : Program} {K : Exit → St → Prop} {b c : Code} {st : St}
theorem Then.normal (h : AWP P K b st) : Then P K b .normal st := h
theorem Then.exit {id : Nat} (h : K (.exit id) st) : Then P K b (.exit id) st := h
theorem Then.ret (h : K .ret st) : Then P K b .ret st := h
theorem InBlock.normal {id : Nat} (h : K .normal st) : InBlock id K .normal st := h
theorem InBlock.ret {id : Nat} (h : K .ret st) : InBlock id K .ret st := h
theorem InBlock.same {id : Nat} (h : K .normal st) : InBlock id K (.exit id) st := by simp only [InBlock, Nat.beq_refl]; exact h
theorem InBlock.other {id id' : Nat} (hne : Nat.beq id' id = false) (h : K (.exit id') st) : InBlock id K (.exit id') st := by simp only [InBlock, hne]; exact h
def RoundK (P : Program) (K : Exit → St → Prop) (c : Code) (n : Nat) : Exit → St → Prop := fun e st' => match e with | .normal => Rounds P K c n st' | e => K e st'
theorem Rounds.succ {n : Nat} (h : AWP P (RoundK P K c n) c st) : Rounds P K c (n + 1) st := h
theorem RoundK.normal {n : Nat} (h : Rounds P K c n st) : RoundK P K c n .normal st := h
theorem RoundK.exit {n id : Nat} (h : K (.exit id) st) : RoundK P K c n (.exit id) st := h
theorem RoundK.ret {n : Nat} (h : K .ret st) : RoundK P K c n .ret st := h
theorem Rounds.weak {n : Nat} {st' : St} (hw : Weak st st') (h : Rounds P K c n st') : Rounds P K c n st := by
  cases n with
  | zero => exact h.elim
  | succ n => exact AWP.weak hw h
theorem Rounds.ind {α : Type} (S : α → St) (I : α → Prop) (μ : α → Nat) (step : ∀ (x : α) (n : Nat), I x → (∀ y, I y → μ y < μ x → Rounds P K c n (S y)) → AWP P (RoundK P K c n) c (S x)) : ∀ (n : Nat) (x : α), I x → μ x < n → Rounds P K c n (S x)
  | 0, x, _, h => by omega
  | n + 1, x, hI, h => Rounds.succ (step x n hI fun y hy hlt => Rounds.ind S I μ step n y hy (by omega))
/-- A loop, by what a state of it says. -/
theorem AWP.loopI {α : Type} (S : α → St) (I : α → Prop) (μ : α → Nat) (x : α) (hw : Weak st (S x)) (hI : I x)
    (step : ∀ (x : α) (n : Nat), I x → (∀ y, I y → μ y < μ x → Rounds P K c n (S y)) → AWP P (RoundK P K c n) c (S x)) : AWP P K (.loop c) st :=
  AWP.weak hw (AWP.loop (μ x + 1) (Rounds.ind S I μ step _ x hI (by omega)))
theorem AWP.to_ {st' : St} (e : st = st') (h : AWP P K c st') : AWP P K c st := e ▸ h
theorem AWP.if_ {c : Operand} {x y : Code} (bv : Bool) (hc : opA st c = .d (.lit (.bool bv))) (h : AWP P K (match bv with | true => x | false => y) st) : AWP P K (.cond c x y) st :=
  AWP.cond hc (fun e => by subst e; exact h) (fun e => by subst e; exact h)
end

/-! ### calls -/
def preOK (ids : List Nat) (H : List Blk) : List Nat → List Blk → Prop
  | [], [] => True
  | i :: is, b :: bs => b.ren ids = some (H.getD i .unborn) ∧ preOK ids H is bs
  | _, _ => False
theorem preOK_ren {ids : List Nat} {H : List Blk} : ∀ {is : List Nat} {bs : List Blk}, preOK ids H is bs → is.length = bs.length ∧ ∀ j k, is[j]? = some k → (bs.getD j .unborn).ren ids = some (H.getD k .unborn)
  | [], [], _ => ⟨rfl, fun j k h => by simp at h⟩
  | i :: is, b :: bs, h => by
    obtain ⟨h1, h2⟩ := h
    obtain ⟨h3, h4⟩ := preOK_ren h2
    refine ⟨by simp [h3], fun j k hj => ?_⟩
    cases j with
    | zero => simp only [List.getElem?_cons_zero, Option.some.injEq] at hj; subst hj; exact h1
    | succ j => exact h4 j k (by simpa using hj)
  | [], _ :: _, h => h.elim
  | _ :: _, [], h => h.elim
def renBs (ids : List Nat) : List Blk → Option (List Blk)
  | [] => some []
  | b :: bs => match b.ren ids, renBs ids bs with | some c, some cs => some (c :: cs) | _, _ => none
theorem renBs_spec {ids : List Nat} : ∀ {bs cs : List Blk}, renBs ids bs = some cs → cs.length = bs.length ∧ ∀ (j : Nat) (b : Blk), bs[j]? = some b → ∃ b', cs[j]? = some b' ∧ b.ren ids = some b'
  | [], cs, h => by simp only [renBs, Option.some.injEq] at h; subst h; exact ⟨rfl, fun j b h => by simp at h⟩
  | b :: bs, cs, h => by
    simp only [renBs] at h
    cases hb : b.ren ids with
    | none => rw [hb] at h; simp at h
    | some c =>
      cases hr : renBs ids bs with
      | none => rw [hb, hr] at h; simp at h
      | some ds =>
        rw [hb, hr] at h; simp only [Option.some.injEq] at h; subst h
        obtain ⟨h1, h2⟩ := renBs_spec hr
        refine ⟨by simp [h1], fun j x hj => ?_⟩
        cases j with
        | zero => simp only [List.getElem?_cons_zero, Option.some.injEq] at hj; subst hj; exact ⟨c, rfl, hb⟩
        | succ j => simpa using h2 j x (by simpa using hj)
def nodupB : List Nat → Bool
  | [] => true
  | x :: l => match inB l x with | true => false | false => nodupB l
theorem nodupB_spec : ∀ {l : List Nat}, nodupB l = true → l.Nodup
  | [], _ => List.nodup_nil
  | x :: l, h => by
    simp only [nodupB] at h
    cases hi : inB l x with
    | true => rw [hi] at h; cases h
    | false =>
      rw [hi] at h
      exact List.nodup_cons.2 ⟨(fun hm => by rw [inB_iff.2 hm] at hi; cases hi), nodupB_spec h⟩
def isUnborn : Blk → Bool
  | .unborn => true
  | _ => false
/-- What a call asks of the names, in one Bool. -/
def callB (H : List Blk) (post : List Blk) (pids nids vids : List Nat) : Bool :=
  nodupB (pids ++ nids) && Nat.beq (pids ++ nids).length post.length && post.all (·.notFro) && nids.all (fun i => isUnborn (H.getD i .unborn)) && vids.all (fun i => !inB (pids ++ nids) i)
section
variable {P : Program} {o : Oper} {st : St} {callee : Operand} {args : List Operand} {ats : Array TypeId} {f : FuncId} {first cap xs : List A} {pre : List Blk} {res : A} {post : List Blk} {val : A} {post' : List Blk}
theorem mkCallN (pids nids vids : List Nat) (con : GCall P f xs pre res post) (ho : o.op = .call ⟨.value callee, args.toArray, ats⟩) (hfn : opA st callee = .clo (.func f) first cap) (hin : ∀ args w, (callFunc f args).run P w = .ok (.enter f args) w)
    (hargs : ∃ zs, A.rens pids xs = some zs ∧ nnL zs (A.views st.H vids (first ++ args.map (opA st) ++ cap))) (hpre : preOK pids st.H pids pre) (hB : callB st.H post pids nids vids = true) (hpost : renBs (pids ++ nids) post = some post') (hres : res.ren (pids ++ nids) = some val) :
    CallOK P st o callee args f first cap xs pre res post pids nids vids val post' := by
  simp only [callB, Bool.and_eq_true] at hB
  obtain ⟨⟨⟨⟨h1, h2⟩, h3⟩, h4⟩, h5⟩ := hB
  obtain ⟨h6, h7⟩ := preOK_ren hpre
  obtain ⟨h8, h9⟩ := renBs_spec hpost
  refine ⟨⟨ats, ho⟩, hfn, hin, con, hargs, ⟨h6, h7⟩, nodupB_spec h1, ⟨Nat.eq_of_beq_eq_true h2, h9⟩, h8, fun b hb => List.all_eq_true.1 h3 b hb, fun id hid => ?_, fun id hid => ?_, hres⟩
  · have := List.all_eq_true.1 h4 id hid
    cases hb : st.H.getD id .unborn <;> rw [hb] at this <;> first | rfl | cases this
  · have := List.all_eq_true.1 h5 id hid
    intro hm
    rw [inB_iff.2 hm] at this; cases this
end
/-- A contract whose new blocks are frozen when it comes back. -/
theorem GCall.cast {P : Program} {f : FuncId} {args args' : List A} {pre pre' : List Blk} {res res' : A} {post post' : List Blk} (h : GCall P f args pre res post) (h1 : args = args') (h2 : pre = pre') (h3 : res = res') (h4 : post = post') : GCall P f args' pre' res' post' := by
  subst h1; subst h2; subst h3; subst h4; exact h

/-! ### integers -/
section
variable {P : Program} {t : TypeId} {x y : Operand} {k k' : IntKind} {a b : Int} {w : World}
theorem hb_add : (do eqGuard .add t x y (.int k a) (.int k b); binOp .add t (.int k a) (.int k b) : Sem Value).run P w = .ok (.int k (k.wrap (a + b))) w := by simp [eqGuard, binOp, Op.intArith]
theorem hb_sub : (do eqGuard .sub t x y (.int k a) (.int k b); binOp .sub t (.int k a) (.int k b) : Sem Value).run P w = .ok (.int k (k.wrap (a - b))) w := by simp [eqGuard, binOp, Op.intArith]
theorem hb_mul : (do eqGuard .mul t x y (.int k a) (.int k b); binOp .mul t (.int k a) (.int k b) : Sem Value).run P w = .ok (.int k (k.wrap (a * b))) w := by simp [eqGuard, binOp, Op.intArith]
theorem hb_quo (hb : b ≠ 0) : (do eqGuard .quo t x y (.int k a) (.int k b); binOp .quo t (.int k a) (.int k b) : Sem Value).run P w = .ok (.int k (k.wrap (a.tdiv b))) w := by simp [eqGuard, binOp, Op.intDiv, hb]
theorem hb_rem (hb : b ≠ 0) : (do eqGuard .rem t x y (.int k a) (.int k b); binOp .rem t (.int k a) (.int k b) : Sem Value).run P w = .ok (.int k (a.tmod b)) w := by simp [eqGuard, binOp, Op.intDiv, hb]
theorem hb_shr {n : Nat} (hn : n ≤ k.bits) (hb : b = (n : Int)) : (do eqGuard .shr t x y (.int k a) (.int k' b); binOp .shr t (.int k a) (.int k' b) : Sem Value).run P w = .ok (.int k (a.fdiv (2 ^ n))) w := by
  subst hb; have h0 : ¬ ((n : Int) < 0) := by omega
  simp [eqGuard, binOp, Op.shift, Nat.min_eq_left hn, h0]
theorem hb_shl {n : Nat} (hn : n ≤ k.bits) (hb : b = (n : Int)) : (do eqGuard .shl t x y (.int k a) (.int k' b); binOp .shl t (.int k a) (.int k' b) : Sem Value).run P w = .ok (.int k (k.wrap (a * 2 ^ n))) w := by
  subst hb; have h0 : ¬ ((n : Int) < 0) := by omega
  simp [eqGuard, binOp, Op.shift, Nat.min_eq_left hn, h0]
theorem hb_and : (do eqGuard .and t x y (.int k a) (.int k b); binOp .and t (.int k a) (.int k b) : Sem Value).run P w = .ok (.int k (k.wrap ((BitVec.ofInt k.bits a &&& BitVec.ofInt k.bits b).toNat))) w := by simp [eqGuard, binOp, Op.intBits]
theorem hb_or : (do eqGuard .or t x y (.int k a) (.int k b); binOp .or t (.int k a) (.int k b) : Sem Value).run P w = .ok (.int k (k.wrap ((BitVec.ofInt k.bits a ||| BitVec.ofInt k.bits b).toNat))) w := by simp [eqGuard, binOp, Op.intBits]
theorem hb_xor : (do eqGuard .xor t x y (.int k a) (.int k b); binOp .xor t (.int k a) (.int k b) : Sem Value).run P w = .ok (.int k (k.wrap ((BitVec.ofInt k.bits a ^^^ BitVec.ofInt k.bits b).toNat))) w := by simp [eqGuard, binOp, Op.intBits]
theorem hb_lss : (do eqGuard .lss t x y (.int k a) (.int k b); binOp .lss t (.int k a) (.int k b) : Sem Value).run P w = .ok (.bool (decide (a < b))) w := by simp [eqGuard, binOp, Op.intCmp]
theorem hb_leq : (do eqGuard .leq t x y (.int k a) (.int k b); binOp .leq t (.int k a) (.int k b) : Sem Value).run P w = .ok (.bool (decide (a ≤ b))) w := by simp [eqGuard, binOp, Op.intCmp]
theorem hb_gtr : (do eqGuard .gtr t x y (.int k a) (.int k b); binOp .gtr t (.int k a) (.int k b) : Sem Value).run P w = .ok (.bool (decide (b < a))) w := by simp [eqGuard, binOp, Op.intCmp]
theorem hb_geq : (do eqGuard .geq t x y (.int k a) (.int k b); binOp .geq t (.int k a) (.int k b) : Sem Value).run P w = .ok (.bool (decide (b ≤ a))) w := by simp [eqGuard, binOp, Op.intCmp]
theorem hb_eql : (do eqGuard .eql t x y (.int k a) (.int k b); binOp .eql t (.int k a) (.int k b) : Sem Value).run P w = .ok (.bool (decide (a = b))) w := by
  simp [eqGuard, binOp, Op.intCmp]; exact Bool.eq_iff_iff.2 (by simp)
theorem hb_neq : (do eqGuard .neq t x y (.int k a) (.int k b); binOp .neq t (.int k a) (.int k b) : Sem Value).run P w = .ok (.bool (decide (a ≠ b))) w := by
  simp [eqGuard, binOp, Op.intCmp]; exact Bool.eq_iff_iff.2 (by simp)
variable {s u : ByteArray}
theorem toList_inj {s u : ByteArray} : s.toList = u.toList ↔ s = u := by
  constructor
  · intro h
    rw [ByteArray.toList_eq, ByteArray.toList_eq] at h
    cases s; cases u; simp at h; simp [h]
  · intro h; rw [h]
theorem hb_sneq : (do eqGuard .neq t x y (.string s) (.string u); binOp .neq t (.string s) (.string u) : Sem Value).run P w = .ok (.bool (decide (s ≠ u))) w := by
  simp [eqGuard, binOp, Op.stringOp]; exact Bool.eq_iff_iff.2 (by simp [toList_inj])
variable {p q : Bool}
theorem run_beq (ht : P.underlying t = some .bool) : (Op.equal t (.bool p) (.bool q)).run P w = .ok (p == q) w := by
  unfold Op.equal
  rw [show Op.maxDepth = 9999 + 1 from rfl, Op.equalIn]
  simp [run_underlying ht]
theorem hb_beql (ht : P.underlying t = some .bool) : (do eqGuard .eql t x y (.bool p) (.bool q); binOp .eql t (.bool p) (.bool q) : Sem Value).run P w = .ok (.bool (decide (p = q))) w := by
  have : (p == q) = decide (p = q) := by cases p <;> cases q <;> rfl
  simp only [eqGuard, binOp, Sem.run_bind, run_beq ht, this]
  rfl
theorem hb_bneq (ht : P.underlying t = some .bool) : (do eqGuard .neq t x y (.bool p) (.bool q); binOp .neq t (.bool p) (.bool q) : Sem Value).run P w = .ok (.bool (decide (p ≠ q))) w := by
  have : (!(p == q)) = decide (p ≠ q) := by cases p <;> cases q <;> rfl
  simp only [eqGuard, binOp, Sem.run_bind, run_beq ht, Result.andThen_ok, ← this]
  rfl
theorem hu_not : (Op.unary .not (.bool p)).run P w = .ok (.bool !p) w := rfl
end
theorem lit_int {k : IntKind} {a b : Int} (h : a = b) : A.d (.lit (.int k a)) = .d (.lit (.int k b)) := by rw [h]
end Go.Proofs.Ytelhmhmgaaebpaa.K

namespace Go.Proofs.Ytelhmhmgaaebpaa.K
open Go.RowKit Go.Lib

/-- The cells of a list of things, each of so many cells. -/
def flatD {α : Type} (enc : α → List D) (l : List α) : List D := l.flatMap enc
section
variable {α : Type} {enc : α → List D} {sz : Nat}
@[simp] theorem flatD_nil : flatD enc [] = [] := rfl
theorem flatD_cons (x : α) (l : List α) : flatD enc (x :: l) = enc x ++ flatD enc l := rfl
theorem flatD_append (l r : List α) : flatD enc (l ++ r) = flatD enc l ++ flatD enc r := by simp [flatD]
theorem flatD_length (h : ∀ a, (enc a).length = sz) : ∀ l : List α, (flatD enc l).length = l.length * sz
  | [] => by simp
  | x :: l => by rw [flatD_cons, List.length_append, h, flatD_length h l, List.length_cons, Nat.add_mul]; omega
theorem flat_drop (h : ∀ a, (enc a).length = sz) : ∀ {l : List α} {i : Nat} {x : α}, l[i]? = some x → (flatD enc l).drop (i * sz) = enc x ++ flatD enc (l.drop (i + 1))
  | [], i, x, hx => by simp at hx
  | y :: l, 0, x, hx => by
    simp only [List.getElem?_cons_zero, Option.some.injEq] at hx
    subst hx
    simp [flatD_cons]
  | y :: l, i + 1, x, hx => by
    rw [flatD_cons, Nat.add_mul, Nat.one_mul, List.drop_append]
    have e1 : (enc y).drop (i * sz + sz) = [] := List.drop_of_length_le (by rw [h]; omega)
    rw [e1, List.nil_append, h, Nat.add_sub_cancel]
    exact flat_drop h (by simpa using hx)
variable {l : List α} {i : Nat} {x : α} {k : Nat}
theorem flat_ref_at (h : ∀ a, (enc a).length = sz) (hx : l[i]? = some x) {z : D} (hz : (enc x)[0]? = some z) : ((List.drop (i * sz) (flatD enc l)).map A.d)[0]? = some (.d z) := by
  have hl : 0 < (enc x).length := (List.getElem?_eq_some_iff.1 hz).1
  rw [flat_drop h hx, List.getElem?_map, List.getElem?_append_left hl, hz]; rfl
theorem flat_refk_at (h : ∀ a, (enc a).length = sz) (hx : l[i]? = some x) {z : D} (hz : (enc x)[k]? = some z) : ((List.drop k (List.drop (i * sz) (flatD enc l))).map A.d)[0]? = some (.d z) := by
  have hl : k < (enc x).length := (List.getElem?_eq_some_iff.1 hz).1
  rw [flat_drop h hx, List.getElem?_map, List.getElem?_drop]
  simp only [Nat.add_zero]
  rw [List.getElem?_append_left hl, hz]; rfl
theorem flat_ref_le (h : ∀ a, (enc a).length = sz) (hx : l[i]? = some x) {zs : List A} (hz : zs.length ≤ sz) : 0 + zs.length ≤ ((List.drop (i * sz) (flatD enc l)).map A.d).length := by
  rw [flat_drop h hx, List.length_map, List.length_append, h]; omega
theorem flat_ref (h : ∀ a, (enc a).length = sz) (hx : l[i]? = some x) {zs : List A} (hz : ((enc x).take zs.length).map A.d = zs) : ((((List.drop (i * sz) (flatD enc l)).map A.d).drop 0).take zs.length) = zs := by
  have hl : zs.length ≤ (enc x).length := by
    have := congrArg List.length hz
    simp at this; omega
  rw [flat_drop h hx, List.drop_zero, ← List.map_take, List.take_append_of_le_length hl]; exact hz
theorem flat_refk_le (h : ∀ a, (enc a).length = sz) (hx : l[i]? = some x) {zs : List A} (hz : k + zs.length ≤ sz) : 0 + zs.length ≤ ((List.drop k (List.drop (i * sz) (flatD enc l))).map A.d).length := by
  rw [flat_drop h hx, List.length_map, List.length_drop, List.length_append, h]; omega
theorem flat_refk (h : ∀ a, (enc a).length = sz) (hx : l[i]? = some x) {zs : List A} (hz : (((enc x).drop k).take zs.length).map A.d = zs) : ((((List.drop k (List.drop (i * sz) (flatD enc l))).map A.d).drop 0).take zs.length) = zs := by
  by_cases h0 : zs = []
  · subst h0; simp
  · have hl : zs.length ≤ ((enc x).drop k).length := by
      have := congrArg List.length hz
      simp at this ⊢; omega
    have hk : k ≤ (enc x).length := by
      have := List.length_pos_iff.2 h0
      simp at hl; omega
    rw [flat_drop h hx, List.drop_zero, ← List.map_take, List.drop_append_of_le_length hk, List.take_append_of_le_length hl]; exact hz
theorem flat_row_at (h : ∀ a, (enc a).length = sz) (hx : l[i]? = some x) {z : D} (hz : (enc x)[0]? = some z) : ((flatD enc l).map A.d)[i * sz]? = some (.d z) := by
  have := flat_ref_at h hx hz
  rw [List.getElem?_map, List.getElem?_drop, Nat.add_zero] at this
  rw [List.getElem?_map]; exact this
theorem flat_rowk_at (h : ∀ a, (enc a).length = sz) (hx : l[i]? = some x) {z : D} (hz : (enc x)[k]? = some z) : ((flatD enc l).map A.d)[i * sz + k]? = some (.d z) := by
  have := flat_refk_at h hx hz
  rw [List.getElem?_map, List.getElem?_drop, List.getElem?_drop, Nat.add_zero] at this
  rw [List.getElem?_map]; exact this
theorem flat_row_le (h : ∀ a, (enc a).length = sz) (hx : l[i]? = some x) {zs : List A} (hz : zs.length ≤ sz) : i * sz + zs.length ≤ ((flatD enc l).map A.d).length := by
  have hi := (List.getElem?_eq_some_iff.1 hx).1
  rw [List.length_map, flatD_length h]
  have := Nat.mul_le_mul_right sz (show i + 1 ≤ l.length by omega)
  rw [Nat.add_mul] at this; omega
theorem flat_row (h : ∀ a, (enc a).length = sz) (hx : l[i]? = some x) {zs : List A} (hz : ((enc x).take zs.length).map A.d = zs) : ((((flatD enc l).map A.d).drop (i * sz)).take zs.length) = zs := by
  have := flat_ref h hx hz
  rw [List.drop_zero, List.map_drop] at this
  exact this
end
/-! ### the ends -/
section
variable {P : Program} {rs : List ResultVar} {k : Nat} {res : A} {post : List Blk} {st : St}
theorem ret_any (ids : List Nat) (xs : List A) (h1 : resList P st rs = some xs) (h2 : res.ren ids = some (one xs).nn) (h3 : preOK ids st.H ids post) (h4 : nodupB ids = true) (h5 : k ≤ ids.length ∧ ids.take k = List.range k) : RetK P rs k res post .ret st ∧ RetK P rs k res post .normal st := by
  obtain ⟨h6, h7⟩ := preOK_ren h3
  have : ∃ (ids : List Nat) (xs : List A), resList P st rs = some xs ∧ res.ren ids = some (one xs).nn ∧ renH ids post st.H ∧ ids.Nodup ∧ k ≤ ids.length ∧ ids.take k = List.range k :=
    ⟨ids, xs, h1, h2, ⟨h6, h7⟩, nodupB_spec h4, h5.1, h5.2⟩
  exact ⟨this, this⟩
end
section
variable {P : Program} {o : Oper} {st : St}
/-- A part of a struct, or of an array, by its cells. -/
theorem run_part {t : TypeId} {xs : List A} {off : Nat} {x : A} (h : loadA P t xs off = some x) {m : Mp} {S : Nat → Prop} {w : World} {cs : Array Value} (hr : Reps m S w xs cs.toList) : ∃ v, (part t cs off).run P w = .ok v w ∧ Rep m S w x v := by
  have hl := hr.length
  have aggr : ∀ (i : TypeInfo), P.info? t = some i → (match Nat.ble (off + i.size) xs.length with | true => some (A.agg ((xs.drop off).take i.size)) | false => none) = some x → Rep m S w x (.agg (cs.extract off (off + i.size))) := fun i hi hx => by
    cases hb : Nat.ble (off + i.size) xs.length with
    | false => rw [hb] at hx; cases hx
    | true =>
      rw [hb] at hx; simp only [Option.some.injEq] at hx; subst hx
      simp only [Rep]
      refine ⟨_, rfl, ?_⟩
      have : (cs.extract off (off + i.size)).toList = (cs.toList.drop off).take i.size := by simp [List.extract_eq_take_drop]
      rw [this]; exact (hr.drop off).take _
  unfold loadA at h
  cases hu : P.underlying t with
  | none => rw [hu] at h; cases h
  | some d =>
    rw [hu] at h
    cases d with
    | struct fs =>
      simp only at h
      cases hi : P.info? t with
      | none => rw [hi] at h; cases h
      | some i => rw [hi] at h; exact ⟨_, by simp [part, isAgg, underlying, hu, sizeOf, typeInfo, hi], aggr i hi h⟩
    | array n e =>
      simp only at h
      cases hi : P.info? t with
      | none => rw [hi] at h; cases h
      | some i => rw [hi] at h; exact ⟨_, by simp [part, isAgg, underlying, hu, sizeOf, typeInfo, hi], aggr i hi h⟩
    | _ =>
      simp only at h
      obtain ⟨v, h1, h2⟩ := hr.at off x h
      have : cs[off]? = some v := by rw [← Array.getElem?_toList]; exact h1
      exact ⟨v, by simp [part, isAgg, underlying, hu, this], h2⟩
theorem op_field {t : TypeId} {x : Operand} {f : Nat} {xs : List A} {z : A} {fs : Array Field} {q : Field} (ho : o.op = .field t x f) (hu : P.underlying t = some (.struct fs)) (hq : fs[f]? = some q) (hx : opA st x = .agg xs) (hl : loadA P q.type xs q.offset = some z) : OpRun P o st (locOf x) z [] := by
  refine .pure fun st' hag cx m S a w hs => ?_
  have hr := op_rep hx (fun _ h => h) hag hs
  simp only [Rep] at hr
  obtain ⟨vs, h1, h2⟩ := hr
  obtain ⟨v, h3, h4⟩ := run_part hl h2
  exact ⟨v, by simp [execOp, ho, Instr.field, run_underlying hu, hq, asAgg, h1, h3], h4⟩
end
section
variable {P : Program} {o : Oper} {st : St}
/-- 's == nil'. -/
theorem op_eqnil {t u e : TypeId} {x y : Operand} {ya : A} {ds : List D} {off n : Nat} (ho : o.op = .binOp .eql t x y u) (hu : P.underlying t = some (.slice e)) (hx : opA st x = ya) (hs0 : sliceAt st.H ya = some (ds, off, n)) (hy : opA st y = .d .nil) : OpRun P o st (locsOf [x, y] ++ locA ya) (.ab (n = 0)) [] := by
  refine .pure fun st' hag cx m S a w hs => ?_
  have hr := op_rep hx (R := locsOf [x, y] ++ locA ya) (fun l h => by simp [locsOf, h]) hag hs
  have h2 := op_rep hy (R := locsOf [x, y] ++ locA ya) (fun l h => by simp [locsOf, h]) hag hs
  rw [← sliceA_agree fun l h => hag l (by simp [h])] at hs0
  obtain ⟨p, cap, hv, _, _, h3, _⟩ := sliceAt_spec hs.hold hs0 hr
  simp only [Rep, RepD] at h2
  refine ⟨.bool p.isNone, ?_, by simp only [Rep]; exact ⟨_, rfl, fun h => by cases p with | none => exact (h3 rfl).1 | some q => cases h⟩⟩
  have hq : ∀ w, (Op.equal t (.slice p n cap) (.slice none 0 0)).run P w = .ok p.isNone w := fun w => by
    unfold Op.equal
    rw [show Op.maxDepth = 9999 + 1 from rfl, Op.equalIn]
    cases p <;> simp [run_underlying hu]
  simp only [execOp, ho, hv, h2, eqGuard, binOp, Sem.run_bind, hq, Result.andThen_ok]
  rfl
end
theorem getD_snoc {H H' : List Blk} {b : Blk} {j : Nat} (e : H' = H ++ [b]) (hj : j ≠ H.length) : H'.getD j .unborn = H.getD j .unborn := by
  subst e
  rw [List.getD_eq_getElem?_getD, List.getD_eq_getElem?_getD, List.getElem?_append]
  split
  · rfl
  · rename_i h
    rw [List.getElem?_eq_none (by simp; omega), List.getElem?_eq_none (by omega)]
theorem ownH_set {H H' : List Blk} {i : Nat} {xs ys : List A} {b : Blk} (e : H' = H.set i (.box xs) ++ [b]) (hb : H.getD i .unborn = .box ys) (hi : i < H.length) (hw : wkN H.length xs ys) :
    ∀ j, j ≠ H.length → H'.getD j .unborn = H.getD j .unborn ∨ ∃ xs ys, H'.getD j .unborn = .box xs ∧ H.getD j .unborn = .box ys ∧ wkN H.length xs ys := by
  intro j hj
  have h1 := getD_snoc (H := H.set i (.box xs)) (b := b) (j := j) e (by simpa using hj)
  by_cases hji : j = i
  · subst hji
    refine .inr ⟨xs, ys, ?_, hb, hw⟩
    rw [h1, List.getD_eq_getElem?_getD, List.getElem?_set]; simp [hi]
  · left
    rw [h1, List.getD_eq_getElem?_getD, List.getD_eq_getElem?_getD, List.getElem?_set, if_neg (by omega)]
theorem flat_all {α : Type} {enc : α → List D} {sz : Nat} (h : ∀ a, (enc a).length = sz) {l : List α} : ((flatD enc l).drop 0).take (l.length * sz) = flatD enc l := by
  rw [List.drop_zero, List.take_of_length_le (by rw [flatD_length h]; exact Nat.le_refl _)]
theorem bl_app {i j e sz n n' : Nat} {xs ys : List D} (h1 : n = n') (h2 : xs = ys) : [(i, Blk.gone), (j, Blk.arr e sz n xs)] = [(i, Blk.gone), (j, Blk.arr e sz n' ys)] := by rw [h1, h2]
theorem bl_one {j e sz n n' : Nat} {xs ys : List D} (h1 : n = n') (h2 : xs = ys) : [(j, Blk.arr e sz n xs)] = [(j, Blk.arr e sz n' ys)] := by rw [h1, h2]
theorem flat_take {α : Type} {enc : α → List D} {sz : Nat} (h : ∀ a, (enc a).length = sz) : ∀ {l : List α} {k : Nat}, (flatD enc l).take (k * sz) = flatD enc (l.take k)
  | [], k => by simp
  | x :: l, 0 => by simp
  | x :: l, k + 1 => by
    rw [flatD_cons, List.take_succ_cons, flatD_cons, Nat.add_mul, Nat.one_mul, List.take_append, h x, Nat.add_sub_cancel, flat_take h, List.take_of_length_le (by rw [h]; omega)]
theorem flat_dropL {α : Type} {enc : α → List D} {sz : Nat} (h : ∀ a, (enc a).length = sz) : ∀ {l : List α} {k : Nat}, (flatD enc l).drop (k * sz) = flatD enc (l.drop k)
  | [], k => by simp
  | x :: l, 0 => by simp
  | x :: l, k + 1 => by
    rw [flatD_cons, List.drop_succ_cons, Nat.add_mul, Nat.one_mul, List.drop_append, h x, Nat.add_sub_cancel, flat_dropL h, List.drop_of_length_le (by rw [h]; omega), List.nil_append]
section
variable {P : Program} {o : Oper} {st : St}
/-- 's[:h]' of a row of our own: a shorter row, by another name. -/
theorem op_sliceTo {t e sz id nid n h : Nat} {x : Operand} {hi : Operand} {k : IntKind} {hv : Int} {xs : List D} (ho : o.op = .slice t x none (some hi) none) (he : sliceElem P t = some (e, sz)) (hx : opA st x = .own id) (hb : st.H.getD id .unborn = .arr e sz n xs) (hh : opA st hi = .d (.lit (.int k hv))) (hhv : hv = (h : Int)) (hle : h ≤ n)
    (hnid : st.H.getD nid .unborn = .unborn) (hne : id ≠ nid) : OpRun P o st (locsOf [x, hi] ++ [.blk id, .blk nid]) (.own nid) [(id, .gone), (nid, .arr e sz h (xs.take (h * sz)))] := by
  refine .value fun st' hag cx m S a w hs => ?_
  have hnid' : st'.H.getD nid .unborn = .unborn := (blk1 (by simp) hag).trans hnid
  have hb' : st'.H.getD id .unborn = .arr e sz n xs := (blk1 (by simp) hag).trans hb
  have hrs := op_rep hx (R := locsOf [x, hi] ++ [.blk id, .blk nid]) (fun l h => by simp [locsOf, h]) hag hs
  have hev := op_lit hh (R := locsOf [x, hi] ++ [.blk id, .blk nid]) (fun l h => by simp [locsOf, h]) hag hs
  have hok := hs.hold.ok id
  rw [hb'] at hok
  obtain ⟨v, h5, h6, h9⟩ := hok
  simp only [Rep, h5] at hrs
  obtain ⟨hrs, _⟩ := hrs
  have h6' := h6
  obtain ⟨cells, ⟨hl, hq⟩, h7, h8⟩ := h6
  obtain ⟨p, cap, rv, r2, r3, r4, r5, r6⟩ := row_slice h6'
  have hrun := run_slice (P := P) (a := a) (w := w) (lo := none) (hi := some hi) (l := 0) (h := h) ho he (by rw [hrs]; exact rv) rfl ⟨k, by rw [hev, hhv]⟩ (Nat.zero_le _) (by omega)
  have hval : (Value.slice (if cap = 0 then p else p.map (·.add (0 * sz))) (h - 0) (cap - 0)) = .slice p h cap := by
    cases p <;> simp [Addr.add]
  rw [hval] at hrun
  have hown : OwnsR w e sz (.slice p h cap) h (cells.take (h * sz)) := by
    refine ⟨?_, ?_⟩
    · rw [List.length_take, hl]
      exact Nat.min_eq_left (Nat.mul_le_mul_right sz hle)
    · rcases hq with ⟨hv0, hn0⟩ | ⟨g, cap', cur, hv0, hB, hg, hn1, hm1, hs1, ht1⟩
      · left
        rw [rv] at hv0
        simp only [Value.slice.injEq] at hv0
        obtain ⟨rfl, h1, rfl⟩ := hv0
        have : h = 0 := by omega
        subst this
        exact ⟨rfl, rfl⟩
      · right
        rw [rv] at hv0
        simp only [Value.slice.injEq] at hv0
        obtain ⟨rfl, h1, rfl⟩ := hv0
        refine ⟨g, cap, cur, rfl, hB, hg, by omega, hm1, hs1, ?_⟩
        rw [← ht1, List.take_take, Nat.min_eq_left (Nat.mul_le_mul_right sz hle)]
  have hob : (Value.slice p h cap).ownBlock = v.ownBlock := by rw [rv]; cases p <;> rfl
  have hold := hold_grow (b := .arr e sz h (xs.take (h * sz))) (v' := .slice p h cap) hs.hold h5 h9 hnid' hne (World.grownBy.refl _ _) (fun g hg => ownsRow_lt hown g hg) (fun g hg => .inl (hob.symm.trans hg)) fun hK hLe =>
    ⟨_, by simp only [updM, if_true], ⟨cells.take (h * sz), hown, ⟨by simp [h7.1], fun i y u hy hu => by
      rw [List.getElem?_take] at hy hu
      split at hy
      · rename_i hi; rw [if_pos hi] at hu; exact h7.2 i y u hy hu
      · cases hy⟩, fun u hu => h8 u (List.mem_of_mem_take hu)⟩, fun g hg => h9 g (hob.symm.trans hg)⟩
  refine ⟨_, w, _, S, hrun, hold.1, fun _ h => h, hold.2.1, hold.2.2, ?_⟩
  simp only [Rep, updM, if_true]
  exact ⟨trivial, rfl⟩
end
theorem plain_triv {x : A} (h : x.Plain) : x.Plain ∧ ∀ b ∈ ([] : List Blk), b.Plain := ⟨h, fun b hb => by cases hb⟩
end Go.Proofs.Ytelhmhmgaaebpaa.K

namespace Go.Proofs.Ytelhmhmgaaebpaa.K
open Go.RowKit Go.Lib

theorem wrap_u64 (n : Int) : IntKind.u64.wrap n = n % 18446744073709551616 := by simp [IntKind.wrap, IntKind.signed, IntKind.bits]
theorem wrap_u8 (n : Int) : IntKind.u8.wrap n = n % 256 := by simp [IntKind.wrap, IntKind.signed, IntKind.bits]
section
variable {P : Program}
theorem run_conv {s t : TypeId} {ds : TypeDesc} {k k' : IntKind} {a : Int} (hs : P.underlying s = some ds) (ht : P.underlying t = some (.int k')) (w : World) : (convert s t (.int k a)).run P w = .ok (.int k' (k'.wrap a)) w := by
  simp [convert, run_underlying hs, run_underlying ht, Conv.intToInt]
end
section
variable {P : Program} {o : Oper} {st : St}
end
/-- A contract whose new blocks are frozen. -/
theorem GCall.frz {P : Program} {f : FuncId} {args : List A} {res res' : A} {post : List Blk} (h : GCall P f args [] res post) (vids : List Nat) (hr : res'.ren [] = some (A.nn (res.view post vids))) : GCall P f args [] res' [] := by
  intro m S w vs hg hz hH hargs
  refine Calls.mono (h m S w vs hg hz hH hargs) fun e w' ⟨v, m', S', he, h1, h2⟩ => ⟨v, via [] (fzm m' post vids), SV' m' S' vids, he, ?_, ?_⟩
  · have hf := h1.freeze (vids := vids) (H' := putB post (vids.map fun id => (id, (post.getD id .unborn).frz))) fun k => by
      rw [getD_putB, lastB_frz]
      by_cases hk : k ∈ vids <;> simp [hk]
    exact hf.via (ids := []) List.nodup_nil ⟨rfl, fun j k hk => by simp at hk⟩ fun id p hp => by
      have := hH.ok id
      simp only [List.getD_nil, BlkOK] at this
      simp only at hp
      rw [this] at hp; cases hp
  · exact (Rep.via res' _ v hr).2 (Rep.nn _ _ (Rep.mono (fzm_le h1 vids) (fun _ h => h) (Keeps.refl _ w') _ _ (Rep.view h1 _ _ h2)))
end Go.Proofs.Ytelhmhmgaaebpaa.K

namespace Go.Proofs.Ytelhmhmgaaebpaa
open Go.RowKit

/-- A slice that reads as these cells (sz of them an element). -/
def IsSl (sz : Nat) (cs : List Value) : SP := fun v w => ∃ a n cap, v = .slice a n cap ∧ cs.length = n * sz ∧ n ≤ cap ∧ cap ≤ maxLen ∧ (a = none → n = 0 ∧ cap = 0) ∧
  ∀ p, a = some p → ∀ j u, cs[j]? = some u → w.cell? (p.add j) = some u
/-- A slice that lies at the head of a block of our own (from block B on), or nil. -/
def Owns (B : Nat) (e : TypeId) (sz : Nat) (cs : List Value) : SP := fun v w => ∃ n, w.ownsRow B e sz v n cs

theorem cell_ext {w w' : World} (h : Ext w w') {a : Addr} {u : Value} (hc : w.cell? a = some u) : w'.cell? a = some u := by
  rw [h.cell (World.block_lt_of_cell? w a hc)]; exact hc
theorem IsSl.stable (sz : Nat) (cs : List Value) : Stable (IsSl sz cs) := by
  rintro v w w' ⟨a, n, cap, rfl, hl, hn, hc, ha, h⟩ hx
  exact ⟨a, n, cap, rfl, hl, hn, hc, ha, fun p hp j u hj => cell_ext hx (h p hp j u hj)⟩
theorem Owns.stable (B : Nat) (e : TypeId) (sz : Nat) (cs : List Value) : Stable (Owns B e sz cs) := by
  rintro v w w' ⟨n, h⟩ hx
  exact ⟨n, h.kept (row := none) ⟨hx.os, hx.tape, hx.output, hx.size, fun k hk _ => hx.block k hk⟩ (by cases v.ownBlock <;> simp)⟩
theorem Owns.mono {B B' : Nat} {e : TypeId} {sz : Nat} {cs : List Value} {v : Value} {w : World} (h : Owns B e sz cs v w) (hB : B' ≤ B) : Owns B' e sz cs v w := by
  obtain ⟨n, h1, h2⟩ := h
  refine ⟨n, h1, ?_⟩
  rcases h2 with h2 | ⟨g, cap, cur, hv, hg, r⟩
  · exact .inl h2
  · exact .inr ⟨g, cap, cur, hv, by omega, r⟩
theorem Owns.nil (B : Nat) (e : TypeId) (sz : Nat) (w : World) : Owns B e sz [] (.slice none 0 0) w := ⟨0, World.ownsRow_nil w B e sz⟩
theorem addr_add (b o j : Nat) : (⟨b, o, none⟩ : Addr).add j = ⟨b, o + j, none⟩ := by unfold Addr.add; split <;> simp_all
theorem Owns.lit (w : World) (e : TypeId) (sz : Nat) (cs : List Value) (n : Nat) (hn : cs.length = n * sz) (hm : n ≤ maxLen) :
    Owns w.heap.size e sz cs (.slice (some ⟨w.heap.size, 0, none⟩) n n) (w.alloc (.cells cs.toArray e)) := by
  have := World.ownsRow_lit (base := w.heap.size) (e := e) (size := sz) w cs.toArray n (Nat.le_refl _) hm (by simpa using hn)
  exact ⟨n, by simpa using this⟩
/-- A slice that is not empty, taken apart. -/
theorem IsSl.at {sz : Nat} {cs : List Value} {v : Value} {w : World} (h : IsSl sz cs v w) (hne : cs ≠ []) :
    ∃ b off n cap, v = .slice (some ⟨b, off, none⟩) n cap ∧ cs.length = n * sz ∧ n ≤ cap ∧ cap ≤ maxLen ∧ ∀ j u, cs[j]? = some u → w.cell? ⟨b, off + j, none⟩ = some u := by
  obtain ⟨a, n, cap, rfl, hl, hn, hc, ha, hcell⟩ := h
  cases a with
  | none =>
    obtain ⟨rfl, rfl⟩ := ha rfl
    exact absurd (List.eq_nil_of_length_eq_zero (by simpa using hl)) hne
  | some p =>
    obtain ⟨b, off, spot⟩ := p
    have h0 := hcell _ rfl 0 (cs[0]'(List.length_pos_iff.2 hne)) (by simp)
    have hspot : spot = none := by simpa [Addr.add] using World.cell?_spot h0
    subst hspot
    exact ⟨b, off, n, cap, rfl, hl, hn, hc, fun j u hj => by rw [← addr_add]; exact hcell _ rfl j u hj⟩
theorem Owns.at {B : Nat} {e : TypeId} {sz : Nat} {cs : List Value} {v : Value} {w : World} (h : Owns B e sz cs v w) (hne : cs ≠ []) :
    ∃ g n cap, v = .slice (some ⟨g, 0, none⟩) n cap ∧ B ≤ g ∧ cs.length = n * sz ∧ n ≤ cap ∧ cap ≤ maxLen ∧ ∀ j u, cs[j]? = some u → w.cell? ⟨g, j, none⟩ = some u := by
  obtain ⟨n, h⟩ := h
  have h' := h
  obtain ⟨h1, h2 | ⟨g, cap, cur, rfl, hg, hh, hn, hm, hs, ht⟩⟩ := h
  · obtain ⟨rfl, rfl⟩ := h2
    exact absurd (List.eq_nil_of_length_eq_zero (by simpa using h1)) hne
  · exact ⟨g, n, cap, rfl, hg, h1, hn, hm, fun j u hj => by have := h'.cells (g := g) rfl j u hj; rwa [addr_add, Nat.zero_add] at this⟩
theorem IsSl.ptr {sz : Nat} {cs : List Value} {a : Option Addr} {n cap : Nat} {w : World} (h : IsSl sz cs (.slice a n cap) w) (hne : 0 < cs.length) : ∃ b off, a = some ⟨b, off, none⟩ := by
  obtain ⟨b, off, n', cap', he, _⟩ := h.at (List.length_pos_iff.1 hne)
  simp only [Value.slice.injEq] at he
  exact ⟨b, off, he.1⟩
theorem Ext.grown {w0 w w' : World} {e : TypeId} {sz : Nat} {cs : List Value} {v : Value} (hx : Ext w0 w) (ho : Owns w0.heap.size e sz cs v w) (hg : w.grownBy w' v.ownBlock) : Ext w0 w' := by
  obtain ⟨n, ho⟩ := ho
  exact Below.grown hx hg hx.size fun k hk => (ho.lt k hk).1
theorem Ext.setCells {w0 w : World} (hx : Ext w0 w) {p : Addr} (hp : w0.heap.size ≤ p.block) (u : Value) : Ext w0 (w.setCell p u) := Below.setCell hx hp u

/-- Blocks of cells of another type than e are as they were. -/
def Other (e : TypeId) (w w' : World) : Prop := ∀ (g : Nat) (cur : Array Value) (e' : TypeId) (fr : Nat × Nat), w.heap[g]? = some (Obj.cells cur e' fr) → e' ≠ e → w'.heap[g]? = some (Obj.cells cur e' fr)
theorem Other.refl (e : TypeId) (w : World) : Other e w w := fun _ _ _ _ h _ => h
theorem Other.trans {e : TypeId} {a b c : World} (h : Other e a b) (k : Other e b c) : Other e a c := fun g cur e' fr h1 h2 => k g cur e' fr (h g cur e' fr h1 h2) h2
theorem Ext.other {w w' : World} (h : Ext w w') (e : TypeId) : Other e w w' := fun g cur e' fr h1 _ => by
  rw [h.block g (Array.getElem?_eq_some_iff.1 h1).1]; exact h1
theorem Other.grown {e : TypeId} {sz : Nat} {B : Nat} {cs : List Value} {v : Value} {w w' : World} (ho : Owns B e sz cs v w) (hg : w.grownBy w' v.ownBlock) : Other e w w' := by
  intro g cur e' fr h1 h2
  rw [hg.block g (Array.getElem?_eq_some_iff.1 h1).1 fun hrow => ?_]; exact h1
  obtain ⟨n, _, ⟨rfl, _⟩ | ⟨g', cap, cur', rfl, _, hh, _⟩⟩ := ho
  · simp [Value.ownBlock] at hrow
  · simp only [Value.ownBlock, Option.some.injEq] at hrow
    subst hrow
    rw [hh] at h1
    simp only [Option.some.injEq, Obj.cells.injEq] at h1
    exact h2 h1.2.1.symm
theorem Owns.other {B : Nat} {e e' : TypeId} {sz : Nat} {cs : List Value} {v : Value} {w w' : World} (h : Owns B e sz cs v w) (ho : Other e' w w') (hne : e ≠ e') : Owns B e sz cs v w' := by
  obtain ⟨n, h1, h2⟩ := h
  refine ⟨n, h1, ?_⟩
  rcases h2 with h2 | ⟨g, cap, cur, hv, hg, hh, r⟩
  · exact .inl h2
  · exact .inr ⟨g, cap, cur, hv, hg, ho g cur e _ hh hne, r⟩
theorem IsSl.lit (w : World) (e : TypeId) (sz : Nat) (cs : List Value) (n : Nat) (hn : cs.length = n * sz) (hm : n ≤ maxLen) :
    IsSl sz cs (.slice (some ⟨w.heap.size, 0, none⟩) n n) (w.alloc (.cells cs.toArray e)) :=
  ⟨_, n, n, rfl, hn, Nat.le_refl _, hm, (fun h => by cases h), fun p hp j u hj => by
    cases hp
    rw [addr_add, Nat.zero_add, World.cell?_alloc_new]
    simpa using hj⟩

section
variable {P : Program}
end

theorem Gives.base {P : Program} {f : FuncId} {args : Array Value} {w : World} {B B' : Nat} {e : TypeId} {sz : Nat} {cs : List Value} (h : Gives P f args w (Owns B e sz cs)) (hB : B' ≤ B) : Gives P f args w (Owns B' e sz cs) :=
  h.mono fun _ _ ho => ho.mono hB
section
variable {P : Program} {ops : Array Oper} {w0 : World} {tm : List Value} {Q : Exit → Act → World → Prop} {df : List Deferred} {rest l : List Oper} {U : List (Nat × SV)} {o : Oper} {d : Nat}
end
end Go.Proofs.Ytelhmhmgaaebpaa

namespace Go.Proofs.Ytelhmhmgaaebpaa.K
open Go.RowKit Go.Lib
section
variable {P : Program} {o : Oper} {st : St}
def arrElem (P : Program) (t : TypeId) : Option (Nat × Nat) := match P.underlying t with
  | some (.array n e) => (P.info? e).map fun i => (n, i.size)
  | _ => none
theorem arrElem_spec {t n sz : Nat} (h : arrElem P t = some (n, sz)) : ∃ e i, P.underlying t = some (.array n e) ∧ P.info? e = some i ∧ i.size = sz := by
  unfold arrElem at h
  cases hu : P.underlying t with
  | none => rw [hu] at h; cases h
  | some d =>
    rw [hu] at h
    cases d with
    | array n' e =>
      simp only at h
      cases hi : P.info? e with
      | none => rw [hi] at h; cases h
      | some i => rw [hi] at h; cases h; exact ⟨e, i, rfl, hi, rfl⟩
    | _ => cases h
theorem op_iaddr_arr {t n sz i : Nat} {x ix : Operand} {y : A} {k : IntKind} {iv : Int} (ho : o.op = .indexAddr t x ix) (hy : opA st x = y) (hc : (cellsAt st.H y).isSome = true) (he : arrElem P t = some (n, sz)) (hi : opA st ix = .d (.lit (.int k iv))) (hiv : iv = (i : Int)) (hin : i < n) :
    OpRun P o st (locsOf [x, ix] ++ locA y) (addA (i * sz) y) [] := by
  refine .pure fun st' hag cx m S a w hs => ?_
  have hr := op_rep hy (R := locsOf [x, ix] ++ locA y) (fun l h => by simp [locsOf, h]) hag hs
  have hix := op_lit hi (R := locsOf [x, ix] ++ locA y) (fun l h => by simp [locsOf, h]) hag hs
  rw [← locA_agree fun l h => hag l (by simp [h])] at hc
  obtain ⟨p, hp, h2⟩ := addA_rep hs.hold hr (by cases h : cellsAt st'.H y <;> simp_all) (i * sz)
  obtain ⟨e, inf, hu, hinf, hsz⟩ := arrElem_spec he
  refine ⟨_, ?_, h2⟩
  subst hiv
  have h0 : (0 : Int) ≤ i ∧ (i : Int) < n := by omega
  simp [execOp, ho, Instr.indexAt, hix, asIntOf, run_underlying hu, hp, Instr.sureAddr, sizeOf, typeInfo, hinf, hsz, hin]
/-! ### texts in order -/
/-! ### structs of plain cells -/
end
/-! ### from a contract to a law -/
theorem law_join {P : Program} {f : FuncId} {args : List A} {W : World} {vs : List Value} (h : GCall P f args [] (.d (.lit (.bool true))) []) (hr : Reps (fun _ => none) (fun b => b < W.heap.size) W args vs) (hg : GW (fun b => b < W.heap.size) W := by exact fun _ _ h => nomatch h) : Calls P f vs.toArray W fun e W' => ∃ v, e = .returned v ∧ Below W.heap.size W W' ∧ v = .bool true := by
  refine Calls.mono (h (fun _ => none) (fun b => b < W.heap.size) W vs hg (fun _ h => h) ?_ hr) fun e w' ⟨v, m', S', he, h1, h2⟩ => ⟨v, he, ⟨h1.os, h1.tape, h1.output, h1.size, fun k hk => h1.old k hk fun ⟨id, p, hp, _⟩ => by cases hp⟩, ?_⟩
  · exact ⟨rfl, rfl, rfl, Nat.le_refl _, fun _ _ _ => rfl, fun _ h => h, fun b hb => ⟨.inl hb, hb⟩, fun id p b hp => (by cases hp), fun id id' p p' b _ hp => (by cases hp), fun id => rfl, Le.refl _⟩
  · simp only [Rep] at h2; unfold RepD at h2; exact h2.1
end Go.Proofs.Ytelhmhmgaaebpaa.K

namespace Go.Proofs.Ytelhmhmgaaebpaa.K
open Go.ChangeShapes Go.WideShapes Go.ChangeAt Go.RowKit

/-- These cells are data of this type. -/
inductive TD (P : Program) : TypeId → List D → Prop
  | bool {t : TypeId} (h : P.underlying t = some .bool) (b : Bool) : TD P t [.lit (.bool b)]
  | int {t : TypeId} {k : IntKind} (h : P.underlying t = some (.int k)) (n : Int) (hw : (Lit.int k n).wf = true) : TD P t [.lit (.int k n)]
  | str {t : TypeId} (h : P.underlying t = some .string) (s : ByteArray) (hs : s.size ≤ maxLen) : TD P t [.lit (.string s)]
  | slice {t e : TypeId} (h : P.underlying t = some (.slice e)) (rows : List (List D)) (hn : rows.length ≤ maxLen) (hr : ∀ r ∈ rows, TD P e r) : TD P t [.sl rows.length rows.flatten]
  | struct {t : TypeId} {fs : Array Field} (h : P.underlying t = some (.struct fs)) (parts : List (List D)) (hl : parts.length = fs.toList.length) (hp : ∀ (i : Nat) (f : Field) (p : List D), fs.toList[i]? = some f → parts[i]? = some p → TD P f.type p) : TD P t parts.flatten
  | array {t : TypeId} {n : Nat} {e : TypeId} (h : P.underlying t = some (.array n e)) (parts : List (List D)) (hl : parts.length = n) (hp : ∀ p ∈ parts, TD P e p) : TD P t parts.flatten
def tightF (P : Program) : Nat → List Field → Option Nat
  | off, [] => some off
  | off, f :: fs => match decide (f.offset = off) with | true => tightF P (off + P.cellsOf f.type) fs | false => none
def plainT (P : Program) : Nat → TypeId → Bool
  | 0, _ => false
  | d + 1, t => match P.underlying t with
    | some .bool | some (.int _) | some .string => true
    | some (.slice e) => plainT P d e
    | some (.struct fs) => fs.toList.all (fun f => plainT P d f.type) && decide (tightF P 0 fs.toList = some (P.cellsOf t))
    | some (.array n e) => plainT P d e && decide (P.cellsOf t = n * P.cellsOf e)
    | _ => false
section
variable {S : Nat → Prop} {w : World}
theorem repsD_one {x : D} {v : Value} (h : RepD S w x v) : RepsD S w [x] [v] := ⟨rfl, fun i a b ha hb => by
  match i with
  | 0 => simp only [List.getElem?_cons_zero, Option.some.injEq] at ha hb; subst ha; subst hb; exact h
  | i + 1 => simp at ha⟩
theorem repsD_nil : RepsD S w [] [] := ⟨rfl, fun i a b ha => by simp at ha⟩
theorem repsD_app {xs ys : List D} {vs us : List Value} (h : RepsD S w xs vs) (k : RepsD S w ys us) : RepsD S w (xs ++ ys) (vs ++ us) := by
  refine ⟨by rw [List.length_append, List.length_append, h.1, k.1], fun i x u hx hu => ?_⟩
  rw [List.getElem?_append] at hx hu
  rw [h.1] at hu
  split at hx
  · rename_i hi; rw [if_pos hi] at hu; exact h.2 i x u hx hu
  · rename_i hi; rw [if_neg hi] at hu; exact k.2 _ x u hx hu
theorem reps_of_repsD {m : Mp} : ∀ {xs : List D} {vs : List Value}, RepsD S w xs vs → Reps m S w (xs.map A.d) vs
  | [], vs, h => by simp only [List.map_nil, Reps]; exact List.length_eq_zero_iff.1 h.1
  | x :: xs, [], h => by have := h.1; simp at this
  | x :: xs, v :: vs, h => by
    simp only [List.map_cons, Reps]
    exact ⟨v, vs, rfl, by simp only [Rep]; exact h.2 0 x v rfl rfl, reps_of_repsD ⟨by have := h.1; simpa using this, fun i a b ha hb => h.2 (i + 1) a b (by simpa using ha) (by simpa using hb)⟩⟩
end
theorem flat_uniform {α : Type} {k : Nat} : ∀ {rows : List (List α)}, (∀ r ∈ rows, r.length = k) → ∀ {j : Nat} {c : α}, rows.flatten[j]? = some c → ∃ (i r : Nat) (row : List α), rows[i]? = some row ∧ row[r]? = some c ∧ r < k ∧ j = i * k + r
  | [], _, j, c, h => by simp at h
  | row :: rows, hk, j, c, h => by
    rw [List.flatten_cons, List.getElem?_append] at h
    have hl := hk row (by simp)
    split at h
    · next hj => exact ⟨0, j, row, rfl, h, by omega, by omega⟩
    · next hj =>
      obtain ⟨i, r, row', h1, h2, h3, h4⟩ := flat_uniform (fun r hr => hk r (by simp [hr])) h
      refine ⟨i + 1, r, row', by simpa using h1, h2, h3, ?_⟩
      rw [Nat.add_mul]; omega
theorem cells_each {w : World} {a : Addr} {n : Nat} {cs : List Value} (h : w.cells? 0 a n = some cs) : cs.length = n ∧ ∀ i u, cs[i]? = some u → w.cell? (a.add i) = some u := by
  unfold World.cells? at h
  rw [if_pos (Nat.zero_le _)] at h
  have hl := mapM_some_length h
  rw [List.length_range] at hl
  refine ⟨hl, fun i u hu => ?_⟩
  have hi : i < n := by rw [← hl]; exact (List.getElem?_eq_some_iff.1 hu).1
  have := mapM_some_get h i i (by simp [hi])
  rw [this]; exact hu
section
variable {H : Type} {enc : TypeId × Value → H} {P : Program} {W : World}
/-- What is opened at one place. -/
def Opened (P : Program) (W : World) (t : TypeId) (cs : List Value) : Prop := ∃ ds, TD P t ds ∧ RepsD (fun b => b < W.heap.size) W ds cs ∧ ∀ c ∈ cs, c.oneCell' = true
theorem parts_array {e : TypeId} {k : Nat} {cs : List Value} : ∀ (m i : Nat), (∀ j, i ≤ j → j < i + m → Opened P W e ((cs.drop (j * k)).take k)) → cs.length = (i + m) * k →
    ∃ parts : List (List D), parts.length = m ∧ (∀ p ∈ parts, TD P e p) ∧ RepsD (fun b => b < W.heap.size) W parts.flatten (cs.drop (i * k)) ∧ ∀ c ∈ cs.drop (i * k), c.oneCell' = true
  | 0, i, _, hl => ⟨[], rfl, by simp, by rw [List.drop_of_length_le (by rw [hl]; simp)]; exact repsD_nil, by rw [List.drop_of_length_le (by rw [hl]; simp)]; simp⟩
  | m + 1, i, h, hl => by
    obtain ⟨ds, h1, h2, h3⟩ := h i (Nat.le_refl _) (by omega)
    obtain ⟨parts, q1, q2, q3, q4⟩ := parts_array m (i + 1) (fun j hj hj2 => h j (by omega) (by omega)) (by rw [hl]; congr 1; omega)
    have e1 : cs.drop (i * k) = (cs.drop (i * k)).take k ++ cs.drop ((i + 1) * k) := by
      rw [show (i + 1) * k = i * k + k by rw [Nat.add_mul]; omega, ← List.drop_drop, List.take_append_drop]
    refine ⟨ds :: parts, by simp [q1], fun p hp => ?_, ?_, fun c hc => ?_⟩
    · rcases List.mem_cons.1 hp with rfl | hp
      · exact h1
      · exact q2 p hp
    · rw [e1, List.flatten_cons]; exact repsD_app h2 q3
    · rw [e1] at hc
      rcases List.mem_append.1 hc with hc | hc
      · exact h3 c hc
      · exact q4 c hc
theorem parts_struct {cs : List Value} : ∀ (fs : List Field) (off : Nat), tightF P off fs = some cs.length → (∀ f ∈ fs, Opened P W f.type ((cs.drop f.offset).take (P.cellsOf f.type))) →
    ∃ parts : List (List D), parts.length = fs.length ∧ (∀ (i : Nat) (f : Field) (p : List D), fs[i]? = some f → parts[i]? = some p → TD P f.type p) ∧ RepsD (fun b => b < W.heap.size) W parts.flatten (cs.drop off) ∧ ∀ c ∈ cs.drop off, c.oneCell' = true
  | [], off, ht, _ => by
    unfold tightF at ht; cases ht
    exact ⟨[], rfl, fun i f p h => by simp at h, by rw [List.drop_length]; exact repsD_nil, by rw [List.drop_length]; simp⟩
  | f :: fs, off, ht, h => by
    unfold tightF at ht
    split at ht
    · next ho =>
      have ho := of_decide_eq_true ho
      obtain ⟨ds, h1, h2, h3⟩ := h f (by simp)
      obtain ⟨parts, q1, q2, q3, q4⟩ := parts_struct fs _ ht fun g hg => h g (by simp [hg])
      rw [ho] at h2 h3
      have e1 : cs.drop off = (cs.drop off).take (P.cellsOf f.type) ++ cs.drop (off + P.cellsOf f.type) := by rw [← List.drop_drop, List.take_append_drop]
      refine ⟨ds :: parts, by simp [q1], fun i g p hg hp => ?_, ?_, fun c hc => ?_⟩
      · match i with
        | 0 => simp only [List.getElem?_cons_zero, Option.some.injEq] at hg hp; subst hg; subst hp; exact h1
        | i + 1 => exact q2 i g p (by simpa using hg) (by simpa using hp)
      · rw [e1, List.flatten_cons]; exact repsD_app h2 q3
      · rw [e1] at hc
        rcases List.mem_append.1 hc with hc | hc
        · exact h3 c hc
        · exact q4 c hc
    · cases ht
theorem td_open : ∀ (d : Nat) {t : TypeId}, plainT P d t = true → ∀ {fuel : Nat} {cs : List Value} {x : DataW H × List MemPlace}, DataW.trod enc P W 0 (fun _ => true) true fuel t cs = some x → Opened P W t cs
  | 0, t, hp, _, _, _, _ => by cases hp
  | d + 1, t, hp, fuel, cs, x, h => by
    unfold plainT at hp
    split at hp
    · next hu => obtain ⟨b, rfl, _⟩ := DataW.trod_bool hu h; exact ⟨_, .bool hu b, repsD_one (by unfold RepD; exact ⟨rfl, rfl⟩), fun c hc => by simp at hc; subst hc; rfl⟩
    · next k hu => obtain ⟨n, rfl, _, hw⟩ := DataW.trod_int hu h; exact ⟨_, .int hu n hw, repsD_one (by unfold RepD; exact ⟨rfl, rfl⟩), fun c hc => by simp at hc; subst hc; rfl⟩
    · next hu => obtain ⟨s, rfl, _, hs⟩ := DataW.trod_string hu h; exact ⟨_, .str hu s hs, repsD_one (by unfold RepD; exact ⟨rfl, rfl⟩), fun c hc => by simp at hc; subst hc; rfl⟩
    · next e hu =>
      rcases DataW.trod_slice hu h with ⟨rfl, _⟩ | ⟨a, len, cap, elems, rest, n, _, rfl, _, _, hl, hm, hlen, hel, _, _⟩
      · exact ⟨_, .slice hu [] (by simp) (by simp), repsD_one (by unfold RepD; exact ⟨none, 0, rfl, Nat.le_refl _, Nat.zero_le _, fun _ => ⟨rfl, rfl⟩, by simp only [List.flatten_nil, RepDs]⟩), fun c hc => by simp at hc; subst hc; rfl⟩
      · have each : ∀ i : Nat, ∃ r : List D, i < len → TD P e r ∧ r.length = P.cellsOf e ∧ ∀ j y, r[j]? = some y → ∃ u, W.cell? (a.add (i * P.cellsOf e + j)) = some u ∧ u.oneCell' = true ∧ RepD (fun b => b < W.heap.size) W y u := by
          intro i
          by_cases hi : i < len
          · have h1 := hel i hi
            rw [List.getElem?_eq_getElem (by omega), Option.bind_eq_some_iff] at h1
            obtain ⟨ci, hci, hti⟩ := h1
            obtain ⟨ds, k1, k2, k3⟩ := td_open d hp hti
            obtain ⟨c1, c2⟩ := cells_each hci
            refine ⟨ds, fun _ => ⟨k1, by rw [← k2.1, c1], fun j y hy => ?_⟩⟩
            have hj : j < ci.length := by rw [k2.1]; exact (List.getElem?_eq_some_iff.1 hy).1
            have h5 := c2 j _ (List.getElem?_eq_getElem hj)
            rw [Addr.add_add] at h5
            exact ⟨_, h5, k3 _ (List.getElem_mem hj), k2.2 j y _ hy (List.getElem?_eq_getElem hj)⟩
          · exact ⟨[], fun hh => absurd hh hi⟩
        obtain ⟨g, hg⟩ := Classical.axiomOfChoice each
        have hrl : ((List.range len).map g).length = len := by simp
        have hmem : ∀ r ∈ (List.range len).map g, ∃ i, i < len ∧ g i = r := fun r hr => by
          obtain ⟨i, hi, rfl⟩ := List.mem_map.1 hr
          exact ⟨i, List.mem_range.1 hi, rfl⟩
        have ht := TD.slice hu ((List.range len).map g) (by rw [hrl]; omega) fun r hr => by
          obtain ⟨i, hi, rfl⟩ := hmem r hr
          exact (hg i hi).1
        rw [hrl] at ht
        refine ⟨_, ht, repsD_one ?_, fun c hc => by simp at hc; subst hc; rfl⟩
        unfold RepD
        refine ⟨some a, cap, rfl, hl, hm, fun hh => (by cases hh), RepDs.of _ _ _ fun j c hc => ?_⟩
        obtain ⟨i, r, row, h1, h2, h3, rfl⟩ := flat_uniform (k := P.cellsOf e) (fun r hr => by obtain ⟨i, hi, rfl⟩ := hmem r hr; exact (hg i hi).2.1) hc
        have hi : i < len := by have := (List.getElem?_eq_some_iff.1 h1).1; rw [hrl] at this; exact this
        rw [List.getElem?_map, List.getElem?_range hi] at h1
        cases h1
        obtain ⟨u, h5, h6, h7⟩ := (hg i hi).2.2 r c h2
        refine ⟨a, u, rfl, by rw [Nat.zero_add]; exact h5, ?_, h6, h7⟩
        have := World.block_lt_of_cell? W _ h5
        rw [add_block] at this; exact this
    · next fs hu =>
      rw [Bool.and_eq_true, List.all_eq_true] at hp
      obtain ⟨xs, n, rfl, rfl, hl, hlen, hf⟩ := DataW.trod_struct hu h
      have ht := of_decide_eq_true hp.2
      rw [← hl] at ht
      obtain ⟨parts, q1, q2, q3, q4⟩ := parts_struct (W := W) (cs := cs) fs.toList 0 ht fun f hm => by
        obtain ⟨i, hi⟩ := List.getElem?_of_mem hm
        have h1 := hf i f (by simpa using hi)
        have hlt : i < xs.length := by rw [hlen]; have := (List.getElem?_eq_some_iff.1 hi).1; simpa using this
        rw [List.getElem?_eq_getElem hlt] at h1
        exact td_open d (hp.1 f hm) h1
      exact ⟨_, .struct hu parts q1 q2, q3, q4⟩
    · next n e hu =>
      rw [Bool.and_eq_true] at hp
      obtain ⟨xs, m, rfl, rfl, hl, hlen, hf⟩ := DataW.trod_array hu h
      obtain ⟨parts, q1, q2, q3, q4⟩ := parts_array (P := P) (W := W) (e := e) (k := P.cellsOf e) (cs := cs) n 0 (fun j _ hj => by
        have h1 := hf j (by omega)
        rw [List.getElem?_eq_getElem (by omega)] at h1
        exact td_open d hp.1 h1) (by rw [hl, of_decide_eq_true hp.2, Nat.zero_add])
      rw [Nat.zero_mul, List.drop_zero] at q3 q4
      exact ⟨_, .array hu parts q1 q2, q3, q4⟩
    · cases hp
theorem reps_nil {m : Mp} {S : Nat → Prop} {w : World} : Reps m S w [] [] := by simp only [Reps]
theorem reps_cons {m : Mp} {S : Nat → Prop} {w : World} {a : A} {as' : List A} {v : Value} {r : List Value} (h : Rep m S w a v) (k : Reps m S w as' r) : Reps m S w (a :: as') (v :: r) := by simp only [Reps]; exact ⟨v, r, rfl, h, k⟩
theorem rep_agg {m : Mp} {S : Nat → Prop} {w : World} {as' : List A} {cs : Array Value} (h : Reps m S w as' cs.toList) : Rep m S w (.agg as') (.agg cs) := by simp only [Rep]; exact ⟨cs, rfl, h⟩
theorem rep_d {m : Mp} {S : Nat → Prop} {w : World} {x : D} {v : Value} (h : RepD S w x v) : Rep m S w (.d x) v := by simp only [Rep]; exact h
/-- A value of one cell; of several. -/
theorem open_one {t : TypeId} {v : Value} {dd : DataW H} {ps : List MemPlace} {base : Nat} {r : Reach} (d : Nat) (hp : plainT P d t = true) (hs : scalarT P t = true) (hv : Value.okWide P W r base t v) (h : DataW.Trod enc P W 0 (fun _ => true) true t v dd ps) : ∃ x, TD P t [x] ∧ RepD (fun b => b < W.heap.size) W x v := by
  obtain ⟨fuel, hf⟩ := h
  obtain ⟨ds, h1, h2, h3⟩ := td_open d hp hf
  cases v with
  | agg cs =>
    exfalso
    have : Cell.okWide P W r base t (.agg cs) := by
      unfold Value.okWide at hv
      unfold scalarT at hs
      split at hv
      · next hu => rw [hu] at hs; cases hs
      · next hu => rw [hu] at hs; cases hs
      · exact hv
    unfold Cell.okWide at this
    unfold scalarT at hs
    split at this <;> simp_all [Cell.ok]
  | _ =>
    simp only [Value.cells] at h2
    match ds, h2 with
    | [x], h2 => exact ⟨x, h1, h2.2 0 x _ rfl rfl⟩
theorem open_agg {t : TypeId} {v : Value} {dd : DataW H} {ps : List MemPlace} {base : Nat} {r : Reach} (d : Nat) (hp : plainT P d t = true) (hs : (aggSize P t).isSome = true) (hv : Value.okWide P W r base t v) (h : DataW.Trod enc P W 0 (fun _ => true) true t v dd ps) : ∃ ds cs, v = .agg cs ∧ TD P t ds ∧ RepsD (fun b => b < W.heap.size) W ds cs.toList := by
  obtain ⟨fuel, hf⟩ := h
  obtain ⟨ds, h1, h2, h3⟩ := td_open d hp hf
  have : ∃ cs, v = .agg cs := by
    unfold Value.okWide at hv
    unfold aggSize at hs
    split at hv
    · exact ⟨_, hv.choose_spec.1⟩
    · exact ⟨_, hv.choose_spec.1⟩
    · exfalso
      split at hs <;> simp_all
  obtain ⟨cs, rfl⟩ := this
  exact ⟨ds, cs, rfl, h1, h2⟩
end
section
variable {P : Program} {t : TypeId} {ds : List D}
theorem TD.of_int {k : IntKind} (hu : P.underlying t = some (.int k)) (h : TD P t ds) : ∃ n, ds = [.lit (.int k n)] ∧ (Lit.int k n).wf = true := by
  cases h with
  | int h n hw => rw [hu] at h; cases h; exact ⟨n, rfl, hw⟩
  | _ h => rw [hu] at h; cases h
theorem TD.of_str (hu : P.underlying t = some .string) (h : TD P t ds) : ∃ s, ds = [.lit (.string s)] ∧ s.size ≤ maxLen := by
  cases h with
  | str h s hs => exact ⟨s, rfl, hs⟩
  | _ h => rw [hu] at h; cases h
theorem rows_enc {α : Type} {enc : α → List D} {Q : α → Prop} : ∀ {rows : List (List D)}, (∀ r ∈ rows, ∃ x, r = enc x ∧ Q x) → ∃ l : List α, rows = l.map enc ∧ ∀ x ∈ l, Q x
  | [], _ => ⟨[], rfl, by simp⟩
  | r :: rows, h => by
    obtain ⟨x, rfl, hx⟩ := h r (by simp)
    obtain ⟨l, rfl, hl⟩ := rows_enc (rows := rows) fun r hr => h r (List.mem_cons_of_mem _ hr)
    refine ⟨x :: l, rfl, fun y hy => ?_⟩
    rcases List.mem_cons.1 hy with rfl | hy
    · exact hx
    · exact hl y hy
theorem TD.of_slice {α : Type} {enc : α → List D} {Q : α → Prop} {e : TypeId} (hu : P.underlying t = some (.slice e)) (he : ∀ {r}, TD P e r → ∃ x, r = enc x ∧ Q x) (h : TD P t ds) : ∃ l : List α, ds = [.sl l.length (flatD enc l)] ∧ l.length ≤ maxLen ∧ ∀ x ∈ l, Q x := by
  cases h with
  | slice h rows hn hr =>
    rw [hu] at h; cases h
    obtain ⟨l, rfl, hl⟩ := rows_enc fun r hm => he (hr r hm)
    exact ⟨l, by rw [List.length_map, ← List.flatMap_def]; rfl, by simpa using hn, hl⟩
  | _ h => rw [hu] at h; cases h
def TDs (P : Program) : List Field → List D → Prop
  | [], ds => ds = []
  | f :: fs, ds => ∃ p q, ds = p ++ q ∧ TD P f.type p ∧ TDs P fs q
theorem tds_of : ∀ {fs : List Field} {parts : List (List D)}, parts.length = fs.length → (∀ (i : Nat) (f : Field) (p : List D), fs[i]? = some f → parts[i]? = some p → TD P f.type p) → TDs P fs parts.flatten
  | [], [], _, _ => rfl
  | f :: fs, p :: parts, hl, h => ⟨p, parts.flatten, rfl, h 0 f p rfl rfl, tds_of (by simpa using hl) fun i g q hg hq => h (i + 1) g q (by simpa using hg) (by simpa using hq)⟩
theorem TD.of_struct {fs : Array Field} (hu : P.underlying t = some (.struct fs)) (h : TD P t ds) : TDs P fs.toList ds := by
  cases h with
  | struct h parts hl hp => rw [hu] at h; cases h; exact tds_of hl hp
  | _ h => rw [hu] at h; cases h
theorem TD.of_array {α : Type} {enc : α → List D} {Q : α → Prop} {n : Nat} {e : TypeId} (hu : P.underlying t = some (.array n e)) (he : ∀ {r}, TD P e r → ∃ x, r = enc x ∧ Q x) (h : TD P t ds) : ∃ l : List α, ds = flatD enc l ∧ l.length = n ∧ ∀ x ∈ l, Q x := by
  cases h with
  | array h parts hl hr =>
    rw [hu] at h; cases h
    obtain ⟨l, rfl, hq⟩ := rows_enc fun r hm => he (hr r hm)
    exact ⟨l, by rw [← List.flatMap_def]; rfl, by simpa using hl, hq⟩
  | _ h => rw [hu] at h; cases h
end
end Go.Proofs.Ytelhmhmgaaebpaa.K

namespace Go.Proofs.Ytelhmhmgaaebpaa.K
open Go.RowKit Go.Lib

/-- Short names for what stands in states. -/
abbrev A.i (n : Int) : A := .d (.lit (.int .i64 n))
abbrev A.y (b : UInt8) : A := .d (byteD b)
abbrev A.b (b : Bool) : A := .d (.lit (.bool b))
/-! ### what models are made of -/
/-- An element, by a whole number. -/
def geti {α : Type} (l : List α) (i : Int) : Option α := if 0 ≤ i then l[i.toNat]? else none
/-- Two lists side by side, if they are not too long. -/
def app {α : Type} (l r : List α) : Option (List α) := if l.length + r.length ≤ 1000000000 then some (l ++ r) else none
/-- The part from a up to b. -/
def cut {α : Type} (l : List α) (a b : Int) : Option (List α) := if 0 ≤ a ∧ a ≤ b ∧ b ≤ (l.length : Int) then some ((l.drop a.toNat).take (b.toNat - a.toNat)) else none
def mkl {α : Type} (n : Int) (z : α) : Option (List α) := if 0 ≤ n ∧ n ≤ 1000000000 then some (List.replicate n.toNat z) else none
def chk {α : Type} (p : Prop) [Decidable p] (x : Option α) : Option α := if p then x else none
def toS (l : List UInt8) : ByteArray := ⟨l.toArray⟩
abbrev A.s (l : List UInt8) : A := .d (.lit (.string (toS l)))
abbrev A.l {α : Type} (enc : α → List D) (l : List α) : A := .d (.sl l.length (flatD enc l))
def toU8 (n : Int) : UInt8 := UInt8.ofNat (n % 256).toNat
/-- Texts' order. -/
def ltS (a b : List UInt8) : Bool := Op.bytesLess a b
def gtS (a b : List UInt8) : Bool := !Op.bytesLess a b && !a == b
section
variable {α β : Type} {r : β}
theorem bnd {a : Option α} {f : α → Option β} (h : Option.bind a f = some r) : ∃ x, a = some x ∧ f x = some r := by
  cases a with
  | none => cases h
  | some x => exact ⟨x, rfl, h⟩
theorem cT {b : Bool} {x y : Option β} (hb : b = true) (h : cond b x y = some r) : x = some r := by rw [hb] at h; exact h
theorem cF {b : Bool} {x y : Option β} (hb : b = false) (h : cond b x y = some r) : y = some r := by rw [hb] at h; exact h
theorem tf_ (b : Bool) : b = true ∨ b = false := by cases b <;> simp
theorem chk_some {p : Prop} [Decidable p] {x : Option β} (h : chk p x = some r) : p ∧ x = some r := by
  unfold chk at h
  split at h
  · exact ⟨‹_›, h⟩
  · cases h
variable {l s : List α} {x : α} {i a b n c : Int}
theorem geti_some (h : geti l i = some x) : i = (i.toNat : Int) ∧ l[i.toNat]? = some x := by
  unfold geti at h
  split at h
  · exact ⟨by omega, h⟩
  · cases h
theorem getlt {k : Nat} (h : l[k]? = some x) : k < l.length := (List.getElem?_eq_some_iff.1 h).1
theorem app_some {x : List α} (h : app l s = some x) : x = l ++ s ∧ l.length + s.length ≤ 1000000000 := by
  unfold app at h
  split at h
  · cases h; exact ⟨rfl, ‹_›⟩
  · cases h
theorem cut_some {x : List α} (h : cut l a b = some x) : a = (a.toNat : Int) ∧ b = (b.toNat : Int) ∧ a.toNat ≤ b.toNat ∧ b.toNat ≤ l.length ∧ x = (l.drop a.toNat).take (b.toNat - a.toNat) := by
  unfold cut at h
  split at h
  · cases h; refine ⟨by omega, by omega, by omega, by omega, rfl⟩
  · cases h
theorem mk_some {z : α} {x : List α} (h : mkl n z = some x) : n = (n.toNat : Int) ∧ n.toNat ≤ 1000000000 ∧ x = List.replicate n.toNat z := by
  unfold mkl at h
  split at h
  · cases h; exact ⟨by omega, by omega, rfl⟩
  · cases h
theorem nil_app {l r : List α} (hm : (Option.bind (app [] l) fun a => some a) = some r) (h : l = []) : [] = r := by
  subst h
  obtain ⟨x, hx, hm⟩ := bnd hm
  cases hm
  exact (app_some hx).1.symm
theorem sh_le {q : Int} {n : Nat} (h : q ≤ (n : Int)) : q.toNat ≤ n := by omega
theorem sh_eq {q : Int} (h : 0 ≤ q) : q = (q.toNat : Int) := by omega
end
theorem app_bytes {n k by_ : Nat} (h : n + k ≤ 1000000000) (hb : by_ ≤ 140000) : (n + k) * by_ ≤ 140737488355328 := by
  have := Nat.mul_le_mul h hb; omega
/-! ### typed data as cells -/
def encI (k : IntKind) (n : Int) : List D := [.lit (.int k n)]
def encU8 (b : UInt8) : List D := [byteD b]
def encS (l : List UInt8) : List D := [.lit (.string (toS l))]
def encL {α : Type} (enc : α → List D) (l : List α) : List D := [.sl l.length (flatD enc l)]
theorem encI_len {k : IntKind} (n : Int) : (encI k n).length = 1 := rfl
theorem encL_len {α : Type} {enc : α → List D} (l : List α) : (encL enc l).length = 1 := rfl
theorem encI_plain {k : IntKind} (n : Int) : ∀ d ∈ encI k n, d.Plain := by simp [encI, D.Plain]
theorem flat_plain {α : Type} {enc : α → List D} (h : ∀ a, ∀ d ∈ enc a, d.Plain) {e sz n : Nat} {l : List α} : (Blk.arr e sz n (flatD enc l)).Plain := by
  show ∀ x ∈ flatD enc l, x.Plain
  intro x hx
  obtain ⟨a, _, h2⟩ := List.mem_flatMap.1 hx
  exact h a x h2
theorem plain_nil : ∀ b ∈ ([] : List Blk), b.Plain := fun b hb => by cases hb
theorem plain_cons {b : Blk} {l : List Blk} (h : b.Plain) (hl : ∀ b ∈ l, b.Plain) : ∀ c ∈ b :: l, c.Plain := fun c hc => by
  rcases List.mem_cons.1 hc with rfl | hc
  · exact h
  · exact hl c hc
theorem lit_tf {b c : Bool} (h : b = c) : A.d (.lit (.bool b)) = .d (.lit (.bool c)) := by rw [h]
theorem toS_inj {a b : List UInt8} : toS a = toS b ↔ a = b := by simp [toS]
theorem u8w (n : Int) : IntKind.u8.wrap n = ((toU8 n).toNat : Int) := by
  have h : (UInt8.ofNat (n % 256).toNat).toNat = (n % 256).toNat % 256 := UInt8.toNat_ofNat
  unfold toU8
  rw [h, K.wrap_u8]
  omega
section
variable {α : Type} {enc : α → List D} {sz : Nat} {l : List α} {i k : Nat} {x y : α} {cs : List D}
theorem flat_split (h : ∀ a, (enc a).length = sz) (hx : l[i]? = some x) : flatD enc l = flatD enc (l.take i) ++ (enc x ++ flatD enc (l.drop (i + 1))) ∧ (flatD enc (l.take i)).length = i * sz := by
  have hi := getlt hx
  have e : l = l.take i ++ (x :: l.drop (i + 1)) := by
    conv => lhs; rw [← List.take_append_drop i l, List.drop_eq_getElem_cons hi]
    rw [(List.getElem?_eq_some_iff.1 hx).2]
  refine ⟨?_, by rw [flatD_length h, List.length_take, Nat.min_eq_left (by omega)]⟩
  conv => lhs; rw [e]
  rw [flatD_append, flatD_cons]
theorem flat_fitk (h : ∀ a, (enc a).length = sz) (hi : i < l.length) (hk : k + cs.length ≤ sz) : i * sz + k + cs.length ≤ (flatD enc l).length := by
  rw [flatD_length h]
  have := Nat.mul_le_mul_right sz (show i + 1 ≤ l.length from hi)
  rw [Nat.add_mul] at this; omega
theorem flat_setk (h : ∀ a, (enc a).length = sz) (hx : l[i]? = some x) (hy : putC (enc x) k cs = enc y) (hk : k + cs.length ≤ sz) : putC (flatD enc l) (i * sz + k) cs = flatD enc (l.set i y) := by
  obtain ⟨e, hl⟩ := flat_split h hx
  have hi := getlt hx
  have e2 : l.set i y = l.take i ++ (y :: l.drop (i + 1)) := by rw [List.set_eq_take_append_cons_drop, if_pos hi]
  rw [e2, flatD_append, flatD_cons, ← hy, e]
  have hxl := h x
  generalize flatD enc (l.take i) = a at hl ⊢
  generalize flatD enc (l.drop (i + 1)) = b
  unfold putC
  rw [List.take_append, List.drop_append, List.take_of_length_le (show a.length ≤ i * sz + k by omega), List.drop_of_length_le (show a.length ≤ i * sz + k + cs.length by omega), List.nil_append, hl]
  rw [show i * sz + k - i * sz = k by omega, show i * sz + k + cs.length - i * sz = k + cs.length by omega, List.take_append_of_le_length (by omega), List.drop_append_of_le_length (by omega)]
  simp only [List.append_assoc]
theorem flat_rep {zs : List D} {n : Nat} (h : zs = enc x) : (List.replicate n zs).flatten = flatD enc (List.replicate n x) := by
  subst h
  rw [flatD, List.flatMap, List.map_replicate]
theorem flat_cut (h : ∀ a, (enc a).length = sz) {a b : Nat} : ((flatD enc l).drop (a * sz)).take ((b - a) * sz) = flatD enc ((l.drop a).take (b - a)) := by
  rw [flat_dropL h, flat_take h]
variable {r z : List α}
theorem cut_len0 {b : Int} (e : z = (l.drop (Int.toNat 0)).take (b.toNat - Int.toNat 0)) (h : b.toNat ≤ l.length) : b.toNat = z.length := by
  rw [e]
  rw [List.length_take, List.length_drop]
  simp; omega
theorem cut_take0 (h : ∀ a, (enc a).length = sz) {b : Int} (e : z = (l.drop (Int.toNat 0)).take (b.toNat - Int.toNat 0)) : (flatD enc l).take (b.toNat * sz) = flatD enc z := by
  rw [e, flat_take h]
  congr 1
end
theorem wrap_of_u8 {k : IntKind} (hk : k ≠ .i8) (b : UInt8) : k.wrap ((b.toNat : Nat) : Int) = ((b.toNat : Nat) : Int) := by
  have := b.toNat_lt
  cases k <;> first | exact absurd rfl hk | (simp [IntKind.wrap, IntKind.bits, IntKind.signed]; omega)
end Go.Proofs.Ytelhmhmgaaebpaa.K

namespace Go.Proofs.Ytelhmhmgaaebpaa.K
open Go.RowKit Go.Lib

section
variable {P : Program} {K : Exit → St → Prop} {b c : Code} {st : St}
/-- Ways that meet: what is behind is walked once. -/
theorem AWP.cutJ {α : Type} (S : α → St) (I : α → Prop) (hb : ∀ x, I x → AWP P K b (S x)) (h : (∀ x, I x → AWP P K b (S x)) → AWP P K (.seq c b) st) : AWP P K (.seq c b) st := h hb
theorem Rounds.to_ {n : Nat} {st' : St} (e : st = st') (h : Rounds P K c n st') : Rounds P K c n st := e ▸ h
end
/-- Own rows are frozen; nil stays nil. -/
def Blk.viewN (H : List Blk) (vids : List Nat) : Blk → Blk
  | .box xs => .box (A.views H vids xs)
  | b => b
def frzN (H : List Blk) (vids : List Nat) : List Blk → Nat → List Blk
  | [], _ => []
  | b :: l, k => (match inB vids k with | true => b.frz | false => b.viewN H vids) :: frzN H vids l (k + 1)
theorem frzN_get {H : List Blk} {vids : List Nat} : ∀ (l : List Blk) (k j : Nat), (frzN H vids l k).getD j .unborn = if (k + j) ∈ vids then (l.getD j .unborn).frz else (l.getD j .unborn).viewN H vids
  | [], k, j => by simp only [frzN, List.getD_nil]; split <;> rfl
  | b :: l, k, 0 => by
    simp only [frzN, List.getD_cons_zero, Nat.add_zero]
    cases h : inB vids k with
    | true => rw [if_pos (inB_iff.1 h)]
    | false => rw [if_neg (fun hm => by rw [inB_iff.2 hm] at h; cases h)]
  | b :: l, k, j + 1 => by
    simp only [frzN, List.getD_cons_succ]
    rw [frzN_get l (k + 1) j, show k + 1 + j = k + (j + 1) by omega]
theorem Weak.frz {st : St} (vids : List Nat) : Weak st ⟨A.views st.H vids st.env, frzN st.H vids st.H 0, st.k⟩ := by
  intro cx m S a w hs
  have hf := hs.hold.freeze (vids := vids) (H' := putB st.H (vids.map fun id => (id, (st.H.getD id .unborn).frz))) fun k => by
    rw [getD_putB, lastB_frz]
    by_cases hk : k ∈ vids <;> simp [hk]
  have hle := fzm_le hs.hold vids
  refine ⟨fzm m st.H vids, SV' m S vids, ⟨⟨hf.os, hf.tape, hf.output, hf.size, hf.old, hf.s0, hf.s, hf.pl, hf.apart, fun j => ?_, hf.le⟩, Reps.mono hle (fun _ h => h) (Keeps.refl _ w) _ _ (Reps.view hs.hold _ _ hs.env), hs.df, hs.pre⟩⟩
  have hj := hf.ok j
  rw [getD_putB, lastB_frz] at hj
  simp only [] at hj ⊢
  rw [frzN_get, Nat.zero_add]
  by_cases hk : j ∈ vids
  · rw [if_pos hk] at hj ⊢; exact hj
  · rw [if_neg hk] at hj ⊢
    simp only [Option.getD_none] at hj
    cases hb : st.H.getD j .unborn with
    | box xs =>
      rw [hb] at hj
      obtain ⟨b, cells, T, k1, k2, k3, k4, k5⟩ := hj
      have hok := hs.hold.ok j
      rw [hb] at hok
      obtain ⟨b0, cells0, T0, j1, j2, j3, _⟩ := hok
      have hi : inB vids j = false := by
        cases hi : inB vids j with
        | false => rfl
        | true => exact absurd (inB_iff.1 hi) hk
      have e1 : m j = some (.box b) := by simpa only [fzm, hi] using k1
      rw [j1] at e1; cases e1
      rw [j2] at k2; cases k2
      exact ⟨b, cells, T, k1, j2, Reps.mono hle (fun _ h => h) (Keeps.refl _ w) _ _ (Reps.view hs.hold _ _ j3), k4, k5⟩
    | unborn => rw [hb] at hj; exact hj
    | gone => rw [hb] at hj; exact hj
    | arr e sz n xs => rw [hb] at hj; exact hj
    | fro e sz n xs => rw [hb] at hj; exact hj
    | rows e sz n xs kq aq => rw [hb] at hj; exact hj
    | mp ks cs => rw [hb] at hj; exact hj

/-- Slot by slot: nothing known, the same under other names, or nil as an empty slice. -/
def wkM (ids : List Nat) : List A → List A → Prop
  | [], [] => True
  | x :: xs, y :: ys => (x = .top ∨ x.ren ids = some y ∨ x.ren ids = some y.nn) ∧ wkM ids xs ys
  | _, _ => False
theorem wkM_reps {ids : List Nat} {m : Mp} {S : Nat → Prop} {w : World} : ∀ {xs ys : List A} {vs : List Value}, wkM ids xs ys → Reps m S w ys vs → Reps (via ids m) S w xs vs
  | [], [], vs, _, h => by simp only [Reps] at h ⊢; exact h
  | x :: xs, y :: ys, vs, hw, h => by
    simp only [Reps] at h ⊢
    obtain ⟨v, r, rfl, h1, h2⟩ := h
    refine ⟨v, r, rfl, ?_, wkM_reps hw.2 h2⟩
    rcases hw.1 with rfl | he | he
    · simp only [Rep]
    · exact (Rep.via x y v he).2 h1
    · exact (Rep.via x y.nn v he).2 (Rep.nn y v h1)
  | [], _ :: _, _, hw, _ => hw.elim
  | _ :: _, [], _, hw, _ => hw.elim
def wkC (ids : List Nat) : Blk → Blk → Prop
  | .box xs, .box ys => wkM ids xs ys
  | b, b' => b.ren ids = some b'
theorem wkC_ok {ids : List Nat} {m : Mp} {S : Nat → Prop} {w : World} {j k : Nat} {b b' : Blk} (hk : ids[j]? = some k) (hw : wkC ids b b') (h : BlkOK m S w k b') : BlkOK (via ids m) S w j b := by
  have gen : b.ren ids = some b' → BlkOK (via ids m) S w j b := fun hr => (BlkOK.via hk hr).2 h
  cases b with
  | box xs =>
    cases b' with
    | box ys =>
      obtain ⟨b, cells, T, h1, h2, h3, h4, h5⟩ := h
      exact ⟨b, cells, T, by simp [K.via, hk, h1], h2, wkM_reps hw h3, h4, h5⟩
    | _ => exact gen hw
  | _ => exact gen hw
def wkCs (ids : List Nat) (H : List Blk) : List Nat → List Blk → Prop
  | [], [] => True
  | i :: is, b :: bs => wkC ids b (H.getD i .unborn) ∧ wkCs ids H is bs
  | _, _ => False
theorem wkCs_spec {ids : List Nat} {H : List Blk} : ∀ {is : List Nat} {bs : List Blk}, wkCs ids H is bs → is.length = bs.length ∧ ∀ j i, is[j]? = some i → wkC ids (bs.getD j .unborn) (H.getD i .unborn)
  | [], [], _ => ⟨rfl, fun j i h => by simp at h⟩
  | i :: is, b :: bs, h => by
    obtain ⟨h1, h2⟩ := wkCs_spec h.2
    refine ⟨by simp [h1], fun j k hj => ?_⟩
    cases j with
    | zero => simp only [List.getElem?_cons_zero, Option.some.injEq] at hj; subst hj; exact h.1
    | succ j => simpa using h2 j k (by simpa using hj)
  | [], _ :: _, h => h.elim
  | _ :: _, [], h => h.elim
theorem Weak.toN {st st' : St} (ids : List Nat) (hk : st'.k = st.k) (hn' : nodupB ids = true) (hl : ids.length = st'.H.length) (hpre : st.k ≤ ids.length ∧ ids.take st.k = List.range st.k)
    (hH' : wkCs ids st.H ids st'.H) (he : wkM ids st'.env st.env) : Weak st st' := by
  have hn := nodupB_spec hn'
  have hH := (wkCs_spec hH').2
  intro cx m S a w hs
  have h := hs.hold
  refine ⟨via ids m, S, ⟨⟨h.os, h.tape, h.output, h.size, h.old, h.s0, h.s, fun id p b hp hb => ?_, fun id id' p p' b hne hp hp' hb => ?_, fun j => ?_, fun id p hp => ?_⟩, wkM_reps he hs.env, hs.df, by rw [hk]; exact hs.pre⟩⟩
  · obtain ⟨k, _, hk⟩ := via_some hp; exact h.pl k p b hk hb
  · obtain ⟨k, h1, hk⟩ := via_some hp
    obtain ⟨k', h1', hk'⟩ := via_some hp'
    refine h.apart k k' p p' b (fun he => hne ?_) hk hk' hb
    subst he
    exact (List.getElem?_inj (List.getElem?_eq_some_iff.1 h1).1 hn).1 (h1.trans h1'.symm)
  · rcases Nat.lt_or_ge j ids.length with hj | hj
    · have hkj : ids[j]? = some ids[j] := List.getElem?_eq_getElem hj
      exact wkC_ok hkj (hH j _ hkj) (h.ok _)
    · rw [getD_none (by rw [← hl]; exact hj)]
      simp only [BlkOK, K.via, List.getElem?_eq_none hj, Option.bind_none]
  · have hid : id < st.k := by
      rcases Nat.lt_or_ge id st.k with h1 | h1
      · exact h1
      · rw [hs.pre id h1] at hp; cases hp
    have hki : ids[id]? = some id := by
      have : (ids.take st.k)[id]? = some id := by rw [hpre.2, List.getElem?_range hid]
      rwa [List.getElem?_take, if_pos hid] at this
    simp only [K.via, hki, Option.bind_some]
    exact h.le id p hp
/-- A block is let go. -/
def isLive : Blk → Bool
  | .arr .. => true
  | .fro .. => true
  | .box _ => true
  | .rows .. => true
  | .mp .. => true
  | _ => false
theorem Weak.gone {st st' : St} (j : Nat) (hb : isLive (st.H.getD j .unborn) = true) (he : st' = ⟨st.env, st.H.set j .gone, st.k⟩) : Weak st st' := by
  subst he
  intro cx m S a w hs
  have h := hs.hold
  have hj : ∃ p, m j = some p := by
    have hok := h.ok j
    cases hx : st.H.getD j .unborn with
    | unborn => rw [hx] at hb; cases hb
    | gone => rw [hx] at hb; cases hb
    | box xs => rw [hx] at hok; obtain ⟨b, cells, T, h1, _⟩ := hok; exact ⟨_, h1⟩
    | arr e sz n xs => rw [hx] at hok; obtain ⟨v, h1, _⟩ := hok; exact ⟨_, h1⟩
    | fro e sz n xs => rw [hx] at hok; obtain ⟨v, h1, _⟩ := hok; exact ⟨_, h1⟩
    | rows e sz n xs kq aq => rw [hx] at hok; obtain ⟨v, h1, _⟩ := hok; exact ⟨_, h1⟩
    | mp ks cs => rw [hx] at hok; obtain ⟨v, _, _, h1, _⟩ := hok; exact ⟨_, h1⟩
  have hlen : j < st.H.length := by
    rcases Nat.lt_or_ge j st.H.length with h1 | h1
    · exact h1
    · rw [getD_none h1] at hb; cases hb
  have hLe : Le m (updM m j .gone) := fun k q hq => by
    by_cases e1 : k = j
    · subst e1; right; simp [updM]
    · left; simpa only [updM, e1, if_false] using hq
  have hne : ∀ i, i ≠ j → updM m j .gone i = m i := fun i hi => by simp only [updM, hi, if_false]
  have hself : updM m j .gone j = some .gone := by simp [updM]
  have blkM : ∀ {id p b}, updM m j .gone id = some p → p.blk = some b → m id = some p := fun {id p b} hp hb => by
    by_cases e1 : id = j
    · subst e1; rw [hself] at hp; cases hp; cases hb
    · rw [hne id e1] at hp; exact hp
  refine ⟨_, S, ⟨⟨h.os, h.tape, h.output, h.size, h.old, h.s0, h.s, fun id p b hp hb => h.pl id p b (blkM hp hb) hb, fun id id' p p' b hd hp hp' hb hb' => h.apart id id' p p' b hd (blkM hp hb) (blkM hp' hb') hb hb', fun i => ?_, h.le.trans hLe⟩,
    Reps.mono hLe (fun _ h => h) (Keeps.refl S w) _ _ hs.env, hs.df, hs.pre⟩⟩
  by_cases hi : i = j
  · subst hi
    rw [show (st.H.set i .gone).getD i .unborn = .gone by simp [List.getD_eq_getElem?_getD, List.getElem?_set, hlen]]
    exact hself
  · rw [show (st.H.set j .gone).getD i .unborn = st.H.getD i .unborn by simp [List.getD_eq_getElem?_getD, List.getElem?_set, Ne.symm hi]]
    exact (h.ok i).mono (hne i hi) hLe (fun _ h => h) (Keeps.refl S w) fun p g _ _ => ⟨rfl, fun h => h⟩
/-- A row takes another number. -/
def wkV (c a : Nat) : List A → List A → Prop
  | [], [] => True
  | x :: xs, y :: ys => (x = y ∨ (x = .own c ∧ y = .own a)) ∧ wkV c a xs ys
  | _, _ => False
def mvL (a c : Nat) : Nat → List Blk → List Blk → Prop
  | j, x :: xs, y :: ys => (j = a ∨ x = y ∨ ∃ p q, x = .box p ∧ y = .box q ∧ wkV c a p q) ∧ mvL a c (j + 1) xs ys
  | _, [_], [] => True
  | _, [], [] => True
  | _, _, _ => False
theorem mvL_spec {a c : Nat} : ∀ {xs ys : List Blk} {j : Nat}, mvL a c j xs ys → ∀ i, i < ys.length → j + i = a ∨ xs.getD i .unborn = ys.getD i .unborn ∨ ∃ p q, xs.getD i .unborn = .box p ∧ ys.getD i .unborn = .box q ∧ wkV c a p q
  | _, [], _, _, i, hi => by simp at hi
  | [], y :: ys, _, h, _, _ => by simp [mvL] at h
  | x :: xs, y :: ys, j, h, i, hi => by
    simp only [mvL] at h
    cases i with
    | zero => simpa using h.1
    | succ i =>
      have := mvL_spec h.2 i (by simpa using hi)
      rw [show j + (i + 1) = j + 1 + i by omega]
      simpa using this
theorem mvL_len {a c : Nat} : ∀ {xs ys : List Blk} {j : Nat}, mvL a c j xs ys → xs.length ≤ ys.length + 1
  | [], [], _, _ => by simp
  | [_], [], _, _ => by simp
  | _ :: _ :: _, [], _, h => by simp [mvL] at h
  | [], _ :: _, _, h => by simp [mvL] at h
  | x :: xs, y :: ys, j, h => by
    simp only [mvL] at h
    have := mvL_len h.2
    simp; omega
theorem Weak.move {st st' : St} (a c : Nat) {e sz n : Nat} {xs : List D} (ha : st.H.getD a .unborn = .arr e sz n xs) (hc : c = st.H.length) (hne : a ≠ c) (hk : st'.k = st.k) (he : wkV c a st'.env st.env)
    (hga : st'.H.getD a .unborn = .gone) (hgc : st'.H.getD c .unborn = .arr e sz n xs) (ho : mvL a c 0 st'.H st.H) : Weak st st' := by
  intro cx m S act w hs
  have h := hs.hold
  have hcu : st.H.getD c .unborn = .unborn := getD_none (by omega)
  have hok := h.ok a
  rw [ha] at hok
  obtain ⟨v, h1, h2, h3⟩ := hok
  have hmc : m c = none := by have := h.ok c; rw [hcu] at this; exact this
  let m' : Mp := fun k => if k = c then some (.arr v) else if k = a then some .gone else m k
  have mc : m' c = some (.arr v) := by simp [m']
  have ma : m' a = some .gone := by simp [m', hne]
  have mo : ∀ i, i ≠ a → i ≠ c → m' i = m i := fun i h1 h2 => by simp [m', h1, h2]
  have hLe : Le m m' := fun k q hq => by
    by_cases e1 : k = c
    · subst e1; rw [hmc] at hq; cases hq
    · by_cases e2 : k = a
      · subst e2; exact .inr ma
      · left; rw [mo k e2 e1]; exact hq
  have back : ∀ {id p b}, m' id = some p → p.blk = some b → (id = c ∧ p = .arr v ∧ m a = some p) ∨ (id ≠ c ∧ id ≠ a ∧ m id = some p) := fun {id p b} hp hb => by
    by_cases e1 : id = c
    · subst e1; rw [mc] at hp; cases hp; exact .inl ⟨rfl, rfl, h1⟩
    · by_cases e2 : id = a
      · subst e2; rw [ma] at hp; cases hp; cases hb
      · rw [mo id e2 e1] at hp; exact .inr ⟨e1, e2, hp⟩
  have hv1 : ∀ {xs ys : List A} {vs : List Value}, wkV c a xs ys → Reps m S w ys vs → Reps m' S w xs vs := by
    intro xs
    induction xs with
    | nil =>
      intro ys vs hw hr
      cases ys with
      | nil => simp only [Reps] at hr ⊢; exact hr
      | cons y ys => exact hw.elim
    | cons x xs ih =>
      intro ys vs hw hr
      cases ys with
      | nil => exact hw.elim
      | cons y ys =>
        simp only [Reps] at hr ⊢
        obtain ⟨u, r, rfl, k1, k2⟩ := hr
        refine ⟨u, r, rfl, ?_, ih hw.2 k2⟩
        rcases hw.1 with rfl | ⟨rfl, rfl⟩
        · exact Rep.mono hLe (fun _ h => h) (Keeps.refl S w) _ _ k1
        · simp only [Rep, h1] at k1
          simp only [Rep, mc]; exact k1
  refine ⟨m', S, ⟨⟨h.os, h.tape, h.output, h.size, h.old, h.s0, h.s, fun id p b hp hb => ?_, fun id id' p p' b hd hp hp' hb hb' => ?_, fun i => ?_, h.le.trans hLe⟩, hv1 he hs.env, hs.df, by rw [hk]; exact hs.pre⟩⟩
  · rcases back hp hb with ⟨_, _, q⟩ | ⟨_, _, q⟩
    · exact h.pl a p b q hb
    · exact h.pl id p b q hb
  · rcases back hp hb with ⟨e1, e2, q⟩ | ⟨e1, e2, q⟩ <;> rcases back hp' hb' with ⟨f1, f2, q'⟩ | ⟨f1, f2, q'⟩
    · exact hd (e1.trans f1.symm)
    · exact h.apart a id' p p' b (Ne.symm f2) q q' hb hb'
    · exact h.apart id a p p' b e2 q q' hb hb'
    · exact h.apart id id' p p' b hd q q' hb hb'
  · by_cases e1 : i = c
    · subst e1
      rw [hgc]
      exact ⟨v, mc, h2, h3⟩
    · by_cases e2 : i = a
      · subst e2; rw [hga]; exact ma
      · have hok := h.ok i
        by_cases hl : i < st.H.length
        · rcases mvL_spec ho i hl with q | q | ⟨p, q, q1, q2, q3⟩
          · exact absurd (by omega) e2
          · rw [q]
            exact hok.mono (mo i e2 e1) hLe (fun _ h => h) (Keeps.refl S w) fun p g _ _ => ⟨rfl, fun h => h⟩
          · rw [q2] at hok
            obtain ⟨b, cells, T, k1, k2, k3, k4, k5⟩ := hok
            rw [q1]
            exact ⟨b, cells, T, by rw [mo i e2 e1]; exact k1, k2, hv1 q3 k3, k4, k5⟩
        · rw [getD_none (by omega)] at hok
          have hlen := mvL_len ho
          rw [getD_none (by omega)]
          exact (mo i e2 e1).trans hok
section
variable {P : Program} {o : Oper} {st : St}
/-- A row is frozen as it is made. -/
theorem OpRun.frzNew {R : List Loc} {val : A} {bl : List (Nat × Blk)} (vids : List Nat) (h : OpRun P o st R val bl) (hv : vids.all (fun i => (lastB bl i).isSome) = true) :
    OpRun P o st R (val.view (putB [] bl) vids) (bl ++ vids.map fun id => (id, ((putB [] bl).getD id .unborn).frz)) := by
  intro st' hl hlen cx m S a w hs
  refine runs_mono (h st' hl hlen cx m S a w hs) fun v w' ⟨m', S', k1, k2, k3, k4, k5⟩ => ?_
  have hs0 : ∀ id ∈ vids, (putB st'.H bl).getD id .unborn = (putB [] bl).getD id .unborn := fun id hid => by
    have := List.all_eq_true.1 hv id hid
    obtain ⟨b, hb⟩ := Option.isSome_iff_exists.1 this
    rw [getD_putB, getD_putB, hb]; rfl
  have hF := k4.freeze (vids := vids) (H' := putB st'.H (bl ++ vids.map fun id => (id, ((putB [] bl).getD id .unborn).frz))) fun k => by
    rw [getD_putB, lastB_append]
    have e : lastB (vids.map fun id => (id, ((putB [] bl).getD id .unborn).frz)) k = if k ∈ vids then some ((putB [] bl).getD k .unborn).frz else none := lastB_frz
    rw [e]
    by_cases hk : k ∈ vids
    · rw [if_pos hk, if_pos hk, Option.some_or, Option.getD_some, hs0 k hk]
    · rw [if_neg hk, if_neg hk, Option.none_or, getD_putB]
  have hle := fzm_le k4 vids
  refine ⟨_, _, k1.trans hle, fun b hb => .inl (k2 b hb), k3, hF, ?_⟩
  have := Rep.view (vids := vids) k4 val v k5
  rw [view_congr hs0] at this
  exact Rep.mono hle (fun _ h => h) (Keeps.refl _ w') _ _ this
theorem op_nilCheckLoc {x : Operand} {id off : Nat} {xs : List A} (ho : o.op = .nilCheck x) (hx : opA st x = .loc id off) (hb : st.H.getD id .unborn = .box xs) : OpRun P o st (locOf x ++ [.blk id]) (.loc id off) [] := by
  refine .pure fun st' hag cx m S a w hs => ?_
  have hr := op_rep hx (R := locOf x ++ [.blk id]) (fun l h => by simp [h]) hag hs
  have hb' : st'.H.getD id .unborn = .box xs := (blk1 (by simp) hag).trans hb
  have hok := hs.hold.ok id
  rw [hb'] at hok
  obtain ⟨b, cells, T, h1, _⟩ := hok
  have hr2 := hr
  simp only [Rep, h1] at hr2
  refine ⟨_, ?_, hr⟩
  rw [hr2]
  simp [execOp, ho, hr2]
/-- A part of a frozen slice. -/
theorem op_cut {α : Type} {t e sz : Nat} {x : Operand} {lo hi : Option Operand} {l y : List α} {enc : α → List D} {a b : Nat} (ho : o.op = .slice t x lo hi none) (he : sliceElem P t = some (e, sz)) (hx : opA st x = .d (.sl l.length (flatD enc l))) (hlen : ∀ a, (enc a).length = sz)
    (hlo : boundA st 0 lo a) (hhi : boundA st l.length hi b) (h1 : a ≤ b) (h2 : b ≤ l.length) (hy : y = (l.drop a).take (b - a)) : OpRun P o st (locsOf (x :: (lo.toList ++ hi.toList))) (.d (.sl y.length (flatD enc y))) [] := by
  refine .pure fun st' hag cx m S act w hs => ?_
  have hr := op_rep hx (R := locsOf (x :: (lo.toList ++ hi.toList))) (fun l h => by simp [locsOf, h]) hag hs
  simp only [Rep] at hr
  unfold RepD at hr
  obtain ⟨p, cap, hv, k2, k3, k4, k5⟩ := hr
  have hlo' : boundV act 0 lo a := by
    cases lo with
    | none => exact hlo
    | some z => obtain ⟨k, v, q1, rfl⟩ := hlo; exact ⟨k, op_lit q1 (R := locsOf (x :: ((some z).toList ++ hi.toList))) (fun l h => by simp [locsOf, h]) hag hs⟩
  have hhi' : boundV act l.length hi b := by
    cases hi with
    | none => exact hhi
    | some z =>
      obtain ⟨k, v, q1, rfl⟩ := hhi
      refine ⟨k, op_lit q1 (R := locsOf (x :: (lo.toList ++ (some z).toList))) (fun l h => ?_) hag hs⟩
      exact locs_mem (xs := x :: (lo.toList ++ [z])) (by simp) l h
  refine ⟨_, run_slice ho he hv hlo' hhi' h1 (by omega), ?_⟩
  have hyl : y.length = b - a := by rw [hy, List.length_take, List.length_drop]; omega
  have hcut : flatD enc y = ((flatD enc l).drop (a * sz)).take ((b - a) * sz) := by rw [hy, flat_cut hlen]
  simp only [Rep]
  unfold RepD
  refine ⟨_, cap - a, by rw [hyl], by omega, by omega, fun hn => ?_, ?_⟩
  · split at hn
    · have := k4 hn; omega
    · cases p with
      | none => have := k4 rfl; omega
      | some q => cases hn
  · rw [hcut]
    by_cases hc : cap = a
    · rw [if_pos hc, show b - a = 0 by omega, Nat.zero_mul, List.take_zero]
      simp only [RepDs]
    · rw [if_neg hc]
      cases p with
      | none => have := k4 rfl; omega
      | some q => exact RepDs.take (RepDs.drop k5 (a * sz)) _
end
section
variable {P : Program} {t : TypeId} {x y : Operand} {w : World} {a b : List UInt8}
theorem toList_toS (a : List UInt8) : (toS a).toList = a := by rw [ByteArray.toList_eq]; rfl
theorem hb_tlss : (do eqGuard .lss t x y (.string (toS a)) (.string (toS b)); binOp .lss t (.string (toS a)) (.string (toS b)) : Sem Value).run P w = .ok (.bool (ltS a b)) w := by
  simp [eqGuard, binOp, Op.stringOp, toList_toS, ltS]
theorem hb_tgtr : (do eqGuard .gtr t x y (.string (toS a)) (.string (toS b)); binOp .gtr t (.string (toS a)) (.string (toS b)) : Sem Value).run P w = .ok (.bool (gtS a b)) w := by
  simp [eqGuard, binOp, Op.stringOp, toList_toS, gtS]
end
end Go.Proofs.Ytelhmhmgaaebpaa.K

namespace Go.Proofs.Ytelhmhmgaaebpaa.K
open Go.RowKit Go.Lib

/-- Unknown slots. -/
def tp : Nat → List A → List A
  | 0, l => l
  | n + 1, l => .top :: tp n l
/-- Empty slots. -/
def tu : Nat → List A → List A
  | 0, l => l
  | n + 1, l => .tup [] :: tu n l
section
variable {P : Program} {ops : Array Oper} {K : St → List Ef → Prop} {o : Oper} {l : List Oper} {st : St} {F : List Ef}
theorem Wy (val : A) (bl : List (Nat × Blk)) {R : List Loc} (hop : OpRun P o st R val bl) (h : Walk P ops K l (st.put o.dst val bl) (F ++ [⟨o.dst, val, bl, gLoc ops o ++ R⟩])) (hg : gYes ops st o = true := by kernel_rfl) : Walk P ops K (o :: l) st F := Walk.yes hg hop h
theorem Wn (h : Walk P ops K l (st.put o.dst (.tup []) []) (F ++ [⟨o.dst, .tup [], [], gLoc ops o⟩])) (hg : gNo ops st o = true := by kernel_rfl) : Walk P ops K (o :: l) st F := Walk.no hg h
end
section
variable {P : Program} {K : Exit → St → Prop} {c : Code} {st : St} {id : Nat} {l : List Oper}
theorem Adr (h : Walk P l.toArray (fun st' F => chkF l.toArray F = true ∧ K .normal st') l st []) (hm : P.follows .mixedOrders = true := by kernel_rfl) : AWP P K (.region id l.toArray true) st := AWP.drawn hm h
theorem Ato (st' : St) (h : AWP P K c st') (e : st = st' := by kernel_rfl) : AWP P K c st := AWP.to_ e h
theorem Wdr {ops : Array Oper} {F : List Ef} (h : K .normal st) (hc : chkF ops F = true := by kernel_rfl) : Walk P ops (fun st' F => chkF ops F = true ∧ K .normal st') [] st F := ⟨hc, h⟩
end
/-! ### what is dead is forgotten -/
def maskE (ks nb : Nat) : Nat → List A → List A
  | _, [] => []
  | i, x :: l => (match ks.testBit i with | true => (match nb.testBit i with | true => x.nn | false => x) | false => .top) :: maskE ks nb (i + 1) l
def maskH (kb : Nat) : Nat → List Blk → List Blk
  | _, [] => []
  | i, b :: l => (match kb.testBit i, isLive b with | false, true => .gone | _, _ => b) :: maskH kb (i + 1) l
theorem maskE_reps {m : Mp} {S : Nat → Prop} {w : World} {ks nb : Nat} : ∀ {xs : List A} {i : Nat} {vs : List Value}, Reps m S w xs vs → Reps m S w (maskE ks nb i xs) vs
  | [], _, vs, h => by simpa only [maskE, Reps] using h
  | x :: xs, i, vs, h => by
    simp only [Reps] at h
    obtain ⟨v, r, rfl, h1, h2⟩ := h
    simp only [maskE, Reps]
    refine ⟨v, r, rfl, ?_, maskE_reps h2⟩
    split
    · split
      · exact Rep.nn _ _ h1
      · exact h1
    · simp only [Rep]
theorem maskH_get {kb : Nat} : ∀ (l : List Blk) (i j : Nat), (maskH kb i l).getD j .unborn = (match kb.testBit (i + j), isLive (l.getD j .unborn) with | false, true => .gone | _, _ => l.getD j .unborn)
  | [], i, j => by simp only [maskH, List.getD_nil, isLive]; split <;> simp_all
  | b :: l, i, 0 => by simp only [maskH, List.getD_cons_zero, Nat.add_zero]
  | b :: l, i, j + 1 => by
    simp only [maskH, List.getD_cons_succ]
    rw [maskH_get l (i + 1) j, show i + 1 + j = i + (j + 1) by omega]
theorem Weak.mask {st : St} (ks kb : Nat) : Weak st ⟨maskE ks 0 0 st.env, maskH kb 0 st.H, st.k⟩ := by
  intro cx m S a w hs
  have h := hs.hold
  let T : Nat → Bool := fun i => !kb.testBit i && isLive (st.H.getD i .unborn)
  let m' : Mp := fun i => if T i then some .gone else m i
  have hT : ∀ i, T i = true → ∃ p, m i = some p := fun i hi => by
    have hok := h.ok i
    have hb : isLive (st.H.getD i .unborn) = true := by simp only [T, Bool.and_eq_true] at hi; exact hi.2
    cases hx : st.H.getD i .unborn with
    | unborn => rw [hx] at hb; cases hb
    | gone => rw [hx] at hb; cases hb
    | box xs => rw [hx] at hok; obtain ⟨b, cells, T, h1, _⟩ := hok; exact ⟨_, h1⟩
    | arr e sz n xs => rw [hx] at hok; obtain ⟨v, h1, _⟩ := hok; exact ⟨_, h1⟩
    | fro e sz n xs => rw [hx] at hok; obtain ⟨v, h1, _⟩ := hok; exact ⟨_, h1⟩
    | rows e sz n xs kq aq => rw [hx] at hok; obtain ⟨v, h1, _⟩ := hok; exact ⟨_, h1⟩
    | mp ks cs => rw [hx] at hok; obtain ⟨v, _, _, h1, _⟩ := hok; exact ⟨_, h1⟩
  have hLe : Le m m' := fun k q hq => by
    by_cases e1 : T k = true
    · right; simp [m', e1]
    · left; simpa [m', e1] using hq
  have blkM : ∀ {id p b}, m' id = some p → p.blk = some b → m id = some p := fun {id p b} hp hb => by
    by_cases e1 : T id = true
    · simp only [m', e1, if_true, Option.some.injEq] at hp; subst hp; cases hb
    · simpa [m', e1] using hp
  refine ⟨m', S, ⟨⟨h.os, h.tape, h.output, h.size, h.old, h.s0, h.s, fun id p b hp hb => h.pl id p b (blkM hp hb) hb, fun id id' p p' b hd hp hp' hb hb' => h.apart id id' p p' b hd (blkM hp hb) (blkM hp' hb') hb hb', fun i => ?_, h.le.trans hLe⟩,
    maskE_reps (Reps.mono hLe (fun _ h => h) (Keeps.refl S w) _ _ hs.env), hs.df, hs.pre⟩⟩
  rw [maskH_get, Nat.zero_add]
  by_cases e1 : T i = true
  · have e2 := e1
    simp only [T, Bool.and_eq_true, Bool.not_eq_true'] at e2
    rw [e2.1, e2.2]
    show m' i = some .gone
    simp [m', e1]
  · have : (match kb.testBit i, isLive (st.H.getD i .unborn) with | false, true => Blk.gone | _, _ => st.H.getD i .unborn) = st.H.getD i .unborn := by
      split
      · rename_i q1 q2; exact absurd (show (!kb.testBit i && isLive (st.H.getD i .unborn)) = true by rw [q1, q2]; rfl) e1
      · rfl
    rw [this]
    exact (h.ok i).mono (by simp [m', e1]) hLe (fun _ h => h) (Keeps.refl S w) fun p g _ _ => ⟨rfl, fun h => h⟩
section
variable {P : Program} {K : Exit → St → Prop} {c : Code} {st : St}
/-- Dead slots and blocks are forgotten; the state is printed. -/
theorem Amk (ks kb : Nat) (st' : St) (h : AWP P K c st') (e : (⟨maskE ks 0 0 st.env, maskH kb 0 st.H, st.k⟩ : St) = st' := by kernel_rfl) : AWP P K c st := AWP.weak (Weak.mask ks kb) (AWP.to_ e h)
theorem Afz (vids : List Nat) (st' : St) (h : AWP P K c st') (e : (⟨A.views st.H vids st.env, frzN st.H vids st.H 0, st.k⟩ : St) = st' := by kernel_rfl) : AWP P K c st := AWP.weak (Weak.frz vids) (AWP.to_ e h)
theorem Rfz {n : Nat} (vids : List Nat) (st' : St) (h : Rounds P K c n st') (e : (⟨A.views st.H vids st.env, frzN st.H vids st.H 0, st.k⟩ : St) = st' := by kernel_rfl) : Rounds P K c n st := Rounds.weak (Weak.frz vids) (Rounds.to_ e h)
end
/-- A state comes to a head: slots outside ks are forgotten, those in nb read nil as an empty slice; block j there is block ids[j] here. -/
def pickH (nb : Nat) (H : List Blk) : List Nat → List Blk
  | [] => []
  | i :: is => (match nb.testBit i, H.getD i .unborn with | true, .box xs => .box (A.nns xs) | _, b => b) :: pickH nb H is
theorem wkM_mask {ids : List Nat} {ks nb : Nat} : ∀ {xs ys : List A} {i : Nat}, A.rens ids xs = some (maskE ks nb i ys) → wkM ids xs ys
  | [], [], _, _ => trivial
  | [], y :: ys, i, h => by simp [A.rens, maskE] at h
  | x :: xs, [], i, h => by
    simp only [A.rens, maskE] at h
    split at h <;> cases h
  | x :: xs, y :: ys, i, h => by
    simp only [A.rens, maskE] at h
    split at h
    · rename_i p q h1 h2
      simp only [Option.some.injEq, List.cons.injEq] at h
      refine ⟨?_, wkM_mask (h2.trans (by rw [h.2]))⟩
      split at h
      · split at h
        · exact .inr (.inr (by rw [h1, h.1]))
        · exact .inr (.inl (by rw [h1, h.1]))
      · left
        have e := h1.trans (by rw [h.1])
        cases x with
        | top => rfl
        | d x => simp [A.ren] at e
        | agg xs => simp only [A.ren] at e; split at e <;> cases e
        | tup xs => simp only [A.ren] at e; split at e <;> cases e
        | loc a b => simp only [A.ren] at e; split at e <;> cases e
        | own a => simp only [A.ren] at e; split at e <;> cases e
        | sub a b c => simp only [A.ren] at e; split at e <;> cases e
        | clo f a b => simp only [A.ren] at e; split at e <;> cases e
        | ab p => simp [A.ren] at e
    · cases h
theorem wkM_rens {ids : List Nat} {nn : Bool} : ∀ {xs ys : List A}, A.rens ids xs = some (match nn with | true => A.nns ys | false => ys) → wkM ids xs ys
  | [], [], _ => trivial
  | [], y :: ys, h => by cases nn <;> simp [A.rens, A.nns] at h
  | x :: xs, [], h => by
    simp only [A.rens] at h
    split at h <;> cases nn <;> simp [A.nns] at h
  | x :: xs, y :: ys, h => by
    simp only [A.rens] at h
    split at h
    · rename_i p q h1 h2
      cases nn with
      | true =>
        simp only [A.nns, Option.some.injEq, List.cons.injEq] at h
        exact ⟨.inr (.inr (by rw [h1, h.1])), wkM_rens (nn := true) (by rw [h2]; simp [h.2])⟩
      | false =>
        simp only [Option.some.injEq, List.cons.injEq] at h
        exact ⟨.inr (.inl (by rw [h1, h.1])), wkM_rens (nn := false) (by rw [h2]; simp [h.2])⟩
    · cases h
theorem wkCs_pick {ids : List Nat} {nb : Nat} {H : List Blk} : ∀ {is : List Nat} {bs : List Blk}, renBs ids bs = some (pickH nb H is) → wkCs ids H is bs
  | [], [], _ => trivial
  | [], b :: bs, h => by
    simp only [renBs, pickH] at h
    split at h <;> cases h
  | i :: is, [], h => by simp [renBs, pickH] at h
  | i :: is, b :: bs, h => by
    simp only [renBs, pickH] at h
    split at h
    · rename_i p q h1 h2
      simp only [Option.some.injEq, List.cons.injEq] at h
      refine ⟨?_, wkCs_pick (h2.trans (by rw [h.2]))⟩
      split at h
      · rename_i xs q1 q2
        rw [q2]
        have e := h1.trans (by rw [h.1])
        cases b with
        | box ys =>
          simp only [Blk.ren] at e
          split at e
          · rename_i zs hz
            simp only [Option.some.injEq, Blk.box.injEq] at e
            exact wkM_rens (nn := true) (by rw [hz, e])
          · cases e
        | rows e' sz n xs kq aq => simp only [Blk.ren] at e; split at e <;> cases e
        | _ => cases e
      · have e := h1.trans (by rw [h.1])
        cases b with
        | box ys =>
          simp only [Blk.ren] at e
          split at e
          · rename_i zs hz
            simp only [Option.some.injEq] at e
            rw [← e]
            exact wkM_rens (nn := false) (by rw [hz])
          · cases e
        | unborn => exact e
        | gone => exact e
        | arr e' sz n xs => exact e
        | fro e' sz n xs => exact e
        | mp ks cs => exact e
        | rows e' sz n xs kq aq => exact e
    · cases h
theorem Weak.toK {st st' : St} (ks nb hb : Nat) (ids : List Nat) (h1 : st'.k = st.k := by rfl) (h2 : nodupB ids = true := by kernel_rfl) (h3 : ids.length = st'.H.length := by rfl) (h4 : Nat.ble st.k ids.length = true := by rfl) (h5 : ids.take st.k = List.range st.k := by rfl)
    (h6 : A.rens ids st'.env = some (maskE ks nb 0 st.env) := by kernel_rfl) (h7 : renBs ids st'.H = some (pickH hb st.H ids) := by kernel_rfl) : Weak st st' :=
  Weak.toN ids h1 h2 h3 ⟨Nat.le_of_ble_eq_true h4, h5⟩ (wkCs_pick h7) (wkM_mask h6)
/-! ### operations, computed -/
def loadOf (P : Program) (H : List Blk) (t : TypeId) (y : A) : Option A := match cellsAt H y with | some (xs, off) => loadA P t xs off | none => none
def faddrOf (P : Program) (H : List Blk) (t : TypeId) (f : Nat) (y : A) : Option A := match cellsAt H y, fieldOff P t f with | some _, some k => some (addA k y) | _, _ => none
def fieldOf (P : Program) (t : TypeId) (f : Nat) : A → Option A
  | .agg xs => match P.underlying t with
    | some (.struct fs) => match fs[f]? with | some q => loadA P q.type xs q.offset | none => none
    | _ => none
  | _ => none
def extOf (i : Nat) : A → Option A
  | .tup xs => xs[i]?
  | _ => none
def storeOf (P : Program) (H : List Blk) (t : TypeId) (v : A) : A → Option (Nat × Blk)
  | .loc id off => match cellsOf v, sizeT P t, H.getD id .unborn with
    | some ys, some n, .box xs => match Nat.beq n ys.length, Nat.ble (off + ys.length) xs.length with | true, true => some (id, .box (putC xs off ys)) | _, _ => none
    | _, _, _ => none
  | _ => none
def buildOf (P : Program) (t : TypeId) (parts : List (Nat × A)) : Option A := match P.underlying t with
  | some (.struct fs) => match placesOf P fs.toList, zeroA P t with
    | some pl, some zs => match fillA pl zs parts with | some ys => some (.agg ys) | none => none
    | _, _ => none
  | _ => none
def lenOf (P : Program) (H : List Blk) (t : TypeId) (y : A) : Option Int := match P.underlying t with
  | some .string => match y with | .d (.lit (.string s)) => some (s.size : Int) | _ => none
  | some (.slice _) => match sliceAt H y with | some (_, _, n) => some (n : Int) | none => none
  | _ => none
section
variable {P : Program} {o : Oper} {st : St}
theorem Omv {x : Operand} {val : A} (ho : mvOf o.op = some x) (h : opA st x = val := by kernel_rfl) : OpRun P o st (locOf x) val [] := (op_move ho).cast h
theorem OpT {c x y : Operand} {val : A} (ho : o.op = .pick c x y) (hc : opA st c = .d (.lit (.bool true)) := by kernel_rfl) (h : opA st x = val := by kernel_rfl) : OpRun P o st (locsOf [c, x]) val [] := (op_pickT ho hc).cast h
theorem OpF {c x y : Operand} {val : A} (ho : o.op = .pick c x y) (hc : opA st c = .d (.lit (.bool false)) := by kernel_rfl) (h : opA st y = val := by kernel_rfl) : OpRun P o st (locsOf [c, y]) val [] := (op_pickF ho hc).cast h
theorem Oex {x : Operand} {i : Nat} {val : A} (ho : o.op = .extract x i) (h : extOf i (opA st x) = some val := by kernel_rfl) : OpRun P o st (locOf x) val [] := by
  cases hx : opA st x <;> rw [hx] at h <;> simp only [extOf] at h <;> try cases h
  exact op_extract ho hx h
theorem Oal {t id : Nat} {ys : List A} (ho : o.op = .alloc t) (hz : zeroA P t = some ys := by kernel_rfl) (hid : st.H.getD id .unborn = .unborn := by kernel_rfl) : OpRun P o st [.blk id] (.loc id 0) [(id, .box ys)] := op_alloc ho hz hid
theorem Obx {t id : Nat} {x : Operand} {ys : List A} (ho : o.op = .box t x) (hys : cellsOf (opA st x) = some ys := by kernel_rfl) (hid : st.H.getD id .unborn = .unborn := by kernel_rfl) : OpRun P o st (locOf x ++ [.blk id]) (.loc id 0) [(id, .box ys)] := op_box ho rfl hys hid
theorem Old {t : TypeId} {x : Operand} {z : A} (ho : o.op = .load t x) (h : loadOf P st.H t (opA st x) = some z := by kernel_rfl) : OpRun P o st (locOf x ++ locA (opA st x)) z [] := by
  unfold loadOf at h
  split at h
  · exact op_load ho rfl ‹_› h
  · cases h
theorem Ofa {t : TypeId} {x : Operand} {f : Nat} {z : A} (ho : o.op = .fieldAddr t x f) (h : faddrOf P st.H t f (opA st x) = some z := by kernel_rfl) : OpRun P o st (locOf x ++ locA (opA st x)) z [] := by
  unfold faddrOf at h
  split at h
  · rename_i h1 h2
    cases h
    exact op_faddr ho rfl (by rw [h1]; rfl) h2
  · cases h
theorem Ofd {t : TypeId} {x : Operand} {f : Nat} {z : A} (ho : o.op = .field t x f) (h : fieldOf P t f (opA st x) = some z := by kernel_rfl) : OpRun P o st (locOf x) z [] := by
  cases hx : opA st x <;> rw [hx] at h <;> simp only [fieldOf] at h <;> try cases h
  split at h
  · rename_i fs hu
    split at h
    · rename_i q hq; exact op_field ho hu hq hx h
    · cases h
  · cases h
theorem Ost {t : TypeId} {x y : Operand} {id : Nat} {b : Blk} (ho : o.op = .store t x y) (h : storeOf P st.H t (opA st y) (opA st x) = some (id, b) := by kernel_rfl) : OpRun P o st (locsOf [x, y] ++ [.blk id]) (.tup []) [(id, b)] := by
  cases hx : opA st x <;> rw [hx] at h <;> simp only [storeOf] at h <;> try cases h
  split at h
  · rename_i ys n xs h1 h2 h3
    split at h
    · rename_i h4 h5
      cases h
      exact op_store ho hx h3 rfl h1 (by rw [h2, Nat.eq_of_beq_eq_true h4]) (Nat.le_of_ble_eq_true h5)
    · cases h
  · cases h
theorem Obd {t : TypeId} {parts : List (Nat × Operand)} {z : A} (ho : o.op = .build t parts.toArray) (h : buildOf P t (partsA st parts) = some z := by kernel_rfl) : OpRun P o st (partLocs parts) z [] := by
  unfold buildOf at h
  split at h
  · rename_i fs hu
    split at h
    · rename_i pl zs h1 h2
      split at h
      · rename_i ys h3; cases h; exact op_build ho hu h1 h2 h3
      · cases h
    · cases h
  · cases h
theorem Oln {t : TypeId} {x : Operand} {v : Int} (ho : o.op = .call ⟨.builtin .len, #[x], #[t]⟩) (h : lenOf P st.H t (opA st x) = some v := by kernel_rfl) : OpRun P o st (locOf x ++ locA (opA st x)) (.d (.lit (.int .i64 v))) [] := by
  unfold lenOf at h
  split at h
  · rename_i hu
    split at h
    · rename_i s hx
      cases h
      have := op_len_str (st := st) ho hu hx
      rw [hx]
      simpa [locA] using this
    · cases h
  · rename_i e hu
    split at h
    · rename_i ds off n hs
      cases h
      exact op_len ho hu rfl hs
    · cases h
  · cases h
theorem Obn {op : BinOp} {t u : TypeId} {x y : Operand} {a1 a2 v : Value} (ho : o.op = .binOp op t x y u) (hrun : ∀ w, (do eqGuard op t x y a1 a2; binOp op t a1 a2 : Sem Value).run P w = .ok v w)
    (hx : opA st x = .d (.lit a1) := by kernel_rfl) (hy : opA st y = .d (.lit a2) := by kernel_rfl) (h1 : v.oneCell' = true := by rfl) : OpRun P o st (locsOf [x, y]) (.d (.lit v)) [] := op_bin ho hx hy hrun h1
def callArgs (H : List Blk) (f : FuncId) (vids : List Nat) (args : List A) : A → Option (List A)
  | .clo (.func g) first cap => match Nat.beq g f with | true => some (A.views H vids (first ++ args ++ cap)) | false => none
  | _ => none
/-- Arguments as a contract has them: nil as nil, or as an empty slice. -/
def rawB (rw : Nat) : Nat → List A → List A
  | _, [] => []
  | i, x :: l => (match rw.testBit i with | true => x | false => x.nn) :: rawB rw (i + 1) l
theorem rawB_nnL {rw : Nat} : ∀ {xs : List A} {i : Nat}, nnL (rawB rw i xs) xs
  | [], _ => trivial
  | x :: l, i => ⟨by cases rw.testBit i <;> simp, rawB_nnL⟩
def frzIf (H : List Blk) (vids : List Nat) : Bool → List (Nat × Blk)
  | true => vids.map fun id => (id, (H.getD id .unborn).frz)
  | false => []
def callBl (H : List Blk) (pids nids vids : List Nat) (fz : Bool) (post : List Blk) : Option (List (Nat × Blk)) := match renBs (pids ++ nids) post with
  | some p => some ((pids ++ nids).zip p ++ frzIf H vids fz)
  | none => none
variable {callee : Operand} {args : List Operand} {ats : Array TypeId} {f : FuncId} {xs ys : List A} {pre : List Blk} {res : A} {post : List Blk} {val : A} {bl : List (Nat × Blk)}
theorem mkCall2 (pids nids vids : List Nat) (rw : Nat) (fz : Bool) (con : GCall P f xs pre res post) (hin : ∀ args w, (callFunc f args).run P w = .ok (.enter f args) w) (ho : o.op = .call ⟨.value callee, args.toArray, ats⟩)
    (hy : callArgs st.H f vids (args.map (opA st)) (opA st callee) = some ys) (hargs : A.rens pids xs = some (rawB rw 0 ys)) (hpre : preOK pids st.H pids pre) (hB : callB st.H post pids nids vids = true) (hbl : callBl st.H pids nids vids fz post = some bl) (hres : res.ren (pids ++ nids) = some val) :
    ∃ first cap post', CallOK P st o callee args f first cap xs pre res post pids nids vids val post' ∧ bl = (pids ++ nids).zip post' ++ frzIf st.H vids fz := by
  unfold callBl at hbl
  split at hbl
  · rename_i p hp
    cases hbl
    unfold callArgs at hy
    split at hy
    · rename_i g first cap hc
      split at hy
      · rename_i hg
        cases hy
        have := Nat.eq_of_beq_eq_true hg
        subst this
        exact ⟨first, cap, p, mkCallN pids nids vids con ho hc hin ⟨_, hargs, rawB_nnL⟩ hpre hB hp hres, rfl⟩
      · cases hy
    · cases hy
  · cases hbl
theorem Ocp (pids nids vids : List Nat) (rw : Nat) (con : GCall P f xs pre res post) (hp : res.Plain ∧ ∀ b ∈ post, b.Plain) (hin : ∀ args w, (callFunc f args).run P w = .ok (.enter f args) w) (ho : o.op = .call ⟨.value callee, args.toArray, ats⟩) (hpre : preOK pids st.H pids pre)
    (hargs : (callArgs st.H f vids (args.map (opA st)) (opA st callee)).map (rawB rw 0) = A.rens pids xs := by kernel_rfl) (hs : (callArgs st.H f vids (args.map (opA st)) (opA st callee)).isSome = true := by kernel_rfl)
    (hB : callB st.H post pids nids vids = true := by kernel_rfl) (hbl : callBl st.H pids nids vids false post = some bl := by kernel_rfl) (hres : res.ren (pids ++ nids) = some val := by kernel_rfl) : OpRun P o st (callR callee args pids nids vids) val bl := by
  obtain ⟨ys, hy⟩ := Option.isSome_iff_exists.1 hs
  rw [hy, Option.map_some] at hargs
  obtain ⟨first, cap, post', h, rfl⟩ := mkCall2 pids nids vids rw false con hin ho hy hargs.symm hpre hB hbl hres
  rw [frzIf, List.append_nil]
  exact h.plain hp
theorem Ocf (pids nids vids : List Nat) (rw : Nat) (con : GCall P f xs pre res post) (hin : ∀ args w, (callFunc f args).run P w = .ok (.enter f args) w) (ho : o.op = .call ⟨.value callee, args.toArray, ats⟩) (hpre : preOK pids st.H pids pre)
    (hargs : (callArgs st.H f vids (args.map (opA st)) (opA st callee)).map (rawB rw 0) = A.rens pids xs := by kernel_rfl) (hs : (callArgs st.H f vids (args.map (opA st)) (opA st callee)).isSome = true := by kernel_rfl)
    (hB : callB st.H post pids nids vids = true := by kernel_rfl) (hbl : callBl st.H pids nids vids true post = some bl := by kernel_rfl) (hres : res.ren (pids ++ nids) = some val := by kernel_rfl) : OpRun P o st (callR callee args pids nids vids) val bl := by
  obtain ⟨ys, hy⟩ := Option.isSome_iff_exists.1 hs
  rw [hy, Option.map_some] at hargs
  obtain ⟨first, cap, post', h, rfl⟩ := mkCall2 pids nids vids rw true con hin ho hy hargs.symm hpre hB hbl hres
  exact h.frozen
end
section
variable {P : Program} {rs : List ResultVar} {k : Nat} {res : A} {post : List Blk} {st : St}
def resOne (P : Program) (st : St) (rs : List ResultVar) : Option A := match resList P st rs with | some xs => some (one xs).nn | none => none
def retB (k : Nat) (ids : List Nat) : Bool := nodupB ids && Nat.ble k ids.length && decide (ids.take k = List.range k)
theorem ret_2 (ids : List Nat) (h2 : resOne P st rs = res.ren ids) (h2' : (resOne P st rs).isSome = true) (h3 : renBs ids post = some (pickH 0 st.H ids)) (h5 : retB k ids = true) : RetK P rs k res post .ret st ∧ RetK P rs k res post .normal st := by
  unfold resOne at h2 h2'
  split at h2
  · rename_i xs hx
    simp only [retB, Bool.and_eq_true, decide_eq_true_eq] at h5
    refine ret_any ids xs hx h2.symm ?_ h5.1.1 ⟨Nat.le_of_ble_eq_true h5.1.2, h5.2⟩
    clear h2 h2' hx h5
    have : ∀ (is : List Nat) (bs : List Blk), renBs ids bs = some (pickH 0 st.H is) → preOK ids st.H is bs := by
      intro is
      induction is with
      | nil =>
        intro bs h
        cases bs with
        | nil => trivial
        | cons b bs => simp only [renBs, pickH] at h; split at h <;> cases h
      | cons i is ih =>
        intro bs h
        cases bs with
        | nil => simp [renBs, pickH] at h
        | cons b bs =>
          simp only [renBs, pickH] at h
          split at h
          · rename_i p q h1 h2
            simp only [Option.some.injEq, List.cons.injEq, Nat.zero_testBit] at h
            exact ⟨by rw [h1, h.1], ih bs (by rw [h2, h.2])⟩
          · cases h
    exact this ids post h3
  · rename_i hx; rw [hx] at h2'; cases h2'
theorem ret_i (ids : List Nat) (h2 : resOne P st rs = res.ren ids := by kernel_rfl) (h2' : (resOne P st rs).isSome = true := by kernel_rfl) (h3 : renBs ids post = some (pickH 0 st.H ids) := by kernel_rfl) (h5 : retB k ids = true := by kernel_rfl) : RetK P rs k res post .ret st := (ret_2 ids h2 h2' h3 h5).1
theorem ret_n (ids : List Nat) (h2 : resOne P st rs = res.ren ids := by kernel_rfl) (h2' : (resOne P st rs).isSome = true := by kernel_rfl) (h3 : renBs ids post = some (pickH 0 st.H ids) := by kernel_rfl) (h5 : retB k ids = true := by kernel_rfl) : RetK P rs k res post .normal st := (ret_2 ids h2 h2' h3 h5).2
end
section
variable {P : Program} {o : Oper} {st : St}
theorem Ocs {R : List Loc} {val val' : A} {bl : List (Nat × Blk)} (e : val = val') (h : OpRun P o st R val bl) : OpRun P o st R val' bl := h.cast e
theorem OcB {R : List Loc} {val : A} {bl bl' : List (Nat × Blk)} (h : OpRun P o st R val bl) (e : bl = bl') : OpRun P o st R val bl' := h.castB e
theorem Ofz (vids : List Nat) (val : A) (bl : List (Nat × Blk)) {R : List Loc} {val' : A} {bl' : List (Nat × Blk)} (h : OpRun P o st R val bl) (hv : vids.all (fun i => (lastB bl i).isSome) = true := by kernel_rfl) (e1 : val.view (putB [] bl) vids = val' := by kernel_rfl)
    (e2 : (bl ++ vids.map fun id => (id, ((putB [] bl).getD id .unborn).frz)) = bl' := by kernel_rfl) : OpRun P o st R val' bl' := ((OpRun.frzNew vids h hv).cast e1).castB e2
variable {α : Type} {enc : α → List D} {l r a : List α} {i sz k : Nat} {x0 : α} {t : TypeId} {x : Operand}
/-- An element of a frozen slice, a row's: a struct or one cell; or a part of it. -/
theorem Lf {zs : List A} (ho : o.op = .load t x) (hl : ∀ a, (enc a).length = sz) (hx : l[i]? = some x0) (hy : opA st x = .d (.ref (List.drop (i * sz) (flatD enc l))) := by kernel_rfl) (hk : aggSize P t = some zs.length := by kernel_rfl)
    (hz : ((enc x0).take zs.length).map A.d = zs := by kernel_rfl) (hle : Nat.ble zs.length sz = true := by rfl) : OpRun P o st (locOf x ++ locA (.d (.ref (List.drop (i * sz) (flatD enc l))))) (.agg zs) [] :=
  op_load_of zs ho hy rfl hk (flat_ref_le hl hx (Nat.le_of_ble_eq_true hle)) (flat_ref hl hx hz)
theorem Lfk {zs : List A} (k : Nat) (ho : o.op = .load t x) (hl : ∀ a, (enc a).length = sz) (hx : l[i]? = some x0) (hy : opA st x = .d (.ref (List.drop k (List.drop (i * sz) (flatD enc l)))) := by kernel_rfl) (hk : aggSize P t = some zs.length := by kernel_rfl)
    (hz : (((enc x0).drop k).take zs.length).map A.d = zs := by kernel_rfl) (hle : Nat.ble (k + zs.length) sz = true := by rfl) : OpRun P o st (locOf x ++ locA (.d (.ref (List.drop k (List.drop (i * sz) (flatD enc l)))))) (.agg zs) [] :=
  op_load_of zs ho hy rfl hk (flat_refk_le hl hx (Nat.le_of_ble_eq_true hle)) (flat_refk hl hx hz)
theorem Lf1 {z : D} (ho : o.op = .load t x) (hl : ∀ a, (enc a).length = sz) (hx : l[i]? = some x0) (hy : opA st x = .d (.ref (List.drop (i * sz) (flatD enc l))) := by kernel_rfl) (hk : scalarT P t = true := by kernel_rfl)
    (hz : (enc x0)[0]? = some z := by kernel_rfl) : OpRun P o st (locOf x ++ locA (.d (.ref (List.drop (i * sz) (flatD enc l))))) (.d z) [] :=
  op_load_at _ ho hy rfl hk (flat_ref_at hl hx hz)
theorem Lfk1 {z : D} (k : Nat) (ho : o.op = .load t x) (hl : ∀ a, (enc a).length = sz) (hx : l[i]? = some x0) (hy : opA st x = .d (.ref (List.drop k (List.drop (i * sz) (flatD enc l)))) := by kernel_rfl) (hk : scalarT P t = true := by kernel_rfl)
    (hz : (enc x0)[k]? = some z := by kernel_rfl) : OpRun P o st (locOf x ++ locA (.d (.ref (List.drop k (List.drop (i * sz) (flatD enc l)))))) (.d z) [] :=
  op_load_at _ ho hy rfl hk (flat_refk_at hl hx hz)
theorem Lr {zs : List A} (ho : o.op = .load t x) (hl : ∀ a, (enc a).length = sz) (hx : l[i]? = some x0) (hy : cellsAt st.H (opA st x) = some ((flatD enc l).map A.d, i * sz) := by kernel_rfl) (hk : aggSize P t = some zs.length := by kernel_rfl)
    (hz : ((enc x0).take zs.length).map A.d = zs := by kernel_rfl) (hle : Nat.ble zs.length sz = true := by rfl) : OpRun P o st (locOf x ++ locA (opA st x)) (.agg zs) [] :=
  op_load_of zs ho rfl hy hk (flat_row_le hl hx (Nat.le_of_ble_eq_true hle)) (flat_row hl hx hz)
theorem Lr1 {z : D} (ho : o.op = .load t x) (hl : ∀ a, (enc a).length = sz) (hx : l[i]? = some x0) (hy : cellsAt st.H (opA st x) = some ((flatD enc l).map A.d, i * sz) := by kernel_rfl) (hk : scalarT P t = true := by kernel_rfl)
    (hz : (enc x0)[0]? = some z := by kernel_rfl) : OpRun P o st (locOf x ++ locA (opA st x)) (.d z) [] :=
  op_load_at _ ho rfl hy hk (flat_row_at hl hx hz)
theorem Lrk1 {z : D} (k : Nat) (ho : o.op = .load t x) (hl : ∀ a, (enc a).length = sz) (hx : l[i]? = some x0) (hy : cellsAt st.H (opA st x) = some ((flatD enc l).map A.d, i * sz + k) := by kernel_rfl) (hk : scalarT P t = true := by kernel_rfl)
    (hz : (enc x0)[k]? = some z := by kernel_rfl) : OpRun P o st (locOf x ++ locA (opA st x)) (.d z) [] :=
  op_load_at _ ho rfl hy hk (flat_rowk_at hl hx hz)
def intOf : A → Option Int
  | .d (.lit (.int _ n)) => some n
  | _ => none
theorem intOf_spec {y : A} {n : Int} (h : intOf y = some n) : ∃ k, y = .d (.lit (.int k n)) := by
  unfold intOf at h
  split at h
  · cases h; exact ⟨_, rfl⟩
  · cases h
/-- An element's address. -/
theorem Oia {ix : Operand} {iv : Int} {val : A} (ho : o.op = .indexAddr t x ix) (hl : ∀ a, (enc a).length = sz) (hi : iv = ((Int.toNat iv : Nat) : Int)) (hg : l[Int.toNat iv]? = some x0)
    (hy : sliceAt st.H (opA st x) = some (flatD enc l, 0, l.length) := by kernel_rfl) (he : (sliceElem P t).map Prod.snd = some sz := by kernel_rfl) (hix : intOf (opA st ix) = some iv := by kernel_rfl) (hv : elemA (Int.toNat iv * sz) (opA st x) = val := by kernel_rfl) :
    OpRun P o st (locsOf [x, ix] ++ locA (opA st x)) val [] := by
  obtain ⟨k, hk⟩ := intOf_spec hix
  cases hs : sliceElem P t with
  | none => rw [hs] at he; cases he
  | some q =>
    obtain ⟨e, s⟩ := q
    rw [hs] at he
    cases he
    exact (op_iaddr ho rfl hy hs hk hi (getlt hg)).cast hv
theorem Oap {e by_ id nid : Nat} {z : Value} {s : Operand} (ho : o.op = .call ⟨.builtin .append, #[s, x], #[t, t]⟩) (E : ElemOK P t e sz by_ z) (hl : ∀ a, (enc a).length = sz) (he : a = l ++ r) (hle : l.length + r.length ≤ 1000000000) (hb : Nat.ble by_ 140000 = true := by rfl)
    (hs0 : opA st s = .own id := by kernel_rfl) (hblk : st.H.getD id .unborn = .arr e sz l.length (flatD enc l) := by kernel_rfl) (hy : sliceAt st.H (opA st x) = some (flatD enc r, 0, r.length) := by kernel_rfl) (hnid : st.H.getD nid .unborn = .unborn := by kernel_rfl) (hne : Nat.beq id nid = false := by rfl) :
    OpRun P o st (locsOf [s, x] ++ (locA (opA st x) ++ [.blk id, .blk nid])) (.own nid) [(id, .gone), (nid, .arr e sz a.length (flatD enc a))] :=
  (op_append ho E hs0 hblk rfl hy (flat_all hl) (flatD_length hl _) (app_bytes hle (Nat.le_of_ble_eq_true hb)) hnid (Nat.ne_of_beq_eq_false hne)).castB (bl_app (by rw [he, List.length_append]) (by rw [he, flatD_append]))
def buildSliceOf (P : Program) (t : TypeId) (len : Nat) (parts : List (Nat × A)) : Option Blk := match sliceElem P t with
  | some (e, sz) => match zeroA P e with
    | some zs => match Nat.beq zs.length sz, Nat.blt 0 sz, Nat.ble (len * sz) 16777216, fillA ((List.range len).map fun i => (i * sz, sz)) (List.replicate (len * sz) .top) parts with
      | true, true, true, some ys => match toDs ys, Nat.beq ys.length (len * sz) with
        | some ds, true => some (.arr e sz len ds)
        | _, _ => none
      | _, _, _, _ => none
    | none => none
  | none => none
theorem Obs {len id : Nat} {parts : List (Nat × Operand)} {b : Blk} (ho : o.op = .buildSlice t len parts.toArray) (h : buildSliceOf P t len (partsA st parts) = some b := by kernel_rfl) (hid : st.H.getD id .unborn = .unborn := by kernel_rfl) :
    OpRun P o st (partLocs parts ++ [.blk id]) (.own id) [(id, b)] := by
  unfold buildSliceOf at h
  split at h
  · rename_i e sz he
    split at h
    · rename_i zs hz
      split at h
      · rename_i ys h1 h2 h3 h4
        split at h
        · rename_i ds h5 h6
          cases h
          exact op_buildSlice ho he hz (Nat.eq_of_beq_eq_true h1) (Nat.le_of_ble_eq_true h2) h3 h4 h5 (Nat.eq_of_beq_eq_true h6) hid
        · cases h
      · cases h
    · cases h
  · cases h
/-- An element of an own row is written, or a part of it. -/
def dsOf (v : A) : Option (List D) := match cellsOf v with
  | some ys => toDs ys
  | none => none
theorem toDs_len : ∀ {ys : List A} {ds : List D}, toDs ys = some ds → ds.length = ys.length
  | [], ds, h => by simp only [toDs, Option.some.injEq] at h; subst h; rfl
  | .d x :: ys, ds, h => by
    simp only [toDs] at h
    split at h
    · cases h; simp [toDs_len ‹_›]
    · cases h
  | .top :: _, _, h => by simp [toDs] at h
  | .agg _ :: _, _, h => by simp [toDs] at h
  | .tup _ :: _, _, h => by simp [toDs] at h
  | .loc _ _ :: _, _, h => by simp [toDs] at h
  | .own _ :: _, _, h => by simp [toDs] at h
  | .sub _ _ _ :: _, _, h => by simp [toDs] at h
  | .clo _ _ _ :: _, _, h => by simp [toDs] at h
  | .ab _ :: _, _, h => by simp [toDs] at h
theorem Osr {e id : Nat} {y : Operand} (k : Nat) (ho : o.op = .store t x y) (hl : ∀ a, (enc a).length = sz) (hx : l[i]? = some x0) (y0 : α) (hp : opA st x = .loc id (i * sz + k) := by kernel_rfl)
    (hb : st.H.getD id .unborn = .arr e sz l.length (flatD enc l) := by kernel_rfl) (hds : (dsOf (opA st y)).isSome = true := by kernel_rfl) (hn : sizeT P t = some ((dsOf (opA st y)).getD []).length := by kernel_rfl) (hle : Nat.ble (k + ((dsOf (opA st y)).getD []).length) sz = true := by kernel_rfl)
    (hy0 : putC (enc x0) k ((dsOf (opA st y)).getD []) = enc y0 := by kernel_rfl) : OpRun P o st (locsOf [x, y] ++ [.blk id]) (.tup []) [(id, .arr e sz (l.set i y0).length (flatD enc (l.set i y0)))] := by
  obtain ⟨cs, hcs⟩ := Option.isSome_iff_exists.1 hds
  rw [hcs] at hn hle hy0
  simp only [Option.getD_some] at hn hle hy0
  unfold dsOf at hcs
  split at hcs
  · rename_i ys hys
    exact (op_storeRow ho hp hb rfl hys hcs (by rw [hn, toDs_len hcs]) (flat_fitk hl (getlt hx) (Nat.le_of_ble_eq_true hle))).castB (bl_one (by simp) (flat_setk hl hx hy0 (Nat.le_of_ble_eq_true hle)))
  · cases hcs
end
/-! ### nil becomes an own row -/
theorem wkN_refl {nid : Nat} : ∀ xs : List A, wkN nid xs xs
  | [] => trivial
  | x :: xs => ⟨.inl rfl, wkN_refl xs⟩
theorem wkN_set {nid : Nat} : ∀ {xs : List A} {t : Nat}, xs[t]? = some (.d .nil) → wkN nid (xs.set t (.own nid)) xs
  | [], t, h => by simp at h
  | x :: xs, 0, h => by
    simp only [List.getElem?_cons_zero, Option.some.injEq] at h
    exact ⟨.inr ⟨rfl, h⟩, wkN_refl xs⟩
  | x :: xs, t + 1, h => ⟨.inl rfl, wkN_set (by simpa using h)⟩
theorem Weak.ownS {st : St} (t e sz : Nat) (h1 : st.env[t]? = some (.d .nil)) : Weak st ⟨st.env.set t (.own st.H.length), st.H ++ [.arr e sz 0 []], st.k⟩ :=
  Weak.own (st' := ⟨st.env.set t (.own st.H.length), st.H ++ [.arr e sz 0 []], st.k⟩) st.H.length e sz (getD_none (Nat.le_refl _)) rfl (wkN_set h1) (by simp [List.getD_eq_getElem?_getD]) fun j hj => .inl (getD_snoc rfl hj)
def boxAt (H : List Blk) (b : Nat) : List A := match H.getD b .unborn with | .box xs => xs | _ => []
theorem Weak.ownB {st : St} (b i e sz : Nat) (h1 : (boxAt st.H b)[i]? = some (.d .nil)) : Weak st ⟨st.env, st.H.set b (.box ((boxAt st.H b).set i (.own st.H.length))) ++ [.arr e sz 0 []], st.k⟩ := by
  have hb : st.H.getD b .unborn = .box (boxAt st.H b) := by
    cases hx : st.H.getD b .unborn with
    | box xs => simp only [boxAt, hx]
    | _ => rw [boxAt, hx] at h1; simp at h1
  have hl : b < st.H.length := by
    rcases Nat.lt_or_ge b st.H.length with h | h
    · exact h
    · rw [getD_none h] at hb; cases hb
  exact Weak.own (st' := ⟨st.env, st.H.set b (.box ((boxAt st.H b).set i (.own st.H.length))) ++ [.arr e sz 0 []], st.k⟩) st.H.length e sz (getD_none (Nat.le_refl _)) rfl (wkN_refl _) (by simp [List.getD_eq_getElem?_getD, List.getElem?_append]) (ownH_set (i := b) rfl hb hl (wkN_set h1))
section
variable {P : Program} {K : Exit → St → Prop} {c : Code} {st : St}
theorem Aow (t e sz : Nat) (st' : St) (h : AWP P K c st') (h1 : st.env[t]? = some (.d .nil) := by kernel_rfl) (e1 : (⟨st.env.set t (.own st.H.length), st.H ++ [.arr e sz 0 []], st.k⟩ : St) = st' := by kernel_rfl) : AWP P K c st := AWP.weak (Weak.ownS t e sz h1) (AWP.to_ e1 h)
theorem Aob (b i e sz : Nat) (st' : St) (h : AWP P K c st') (h1 : (boxAt st.H b)[i]? = some (.d .nil) := by kernel_rfl) (e1 : (⟨st.env, st.H.set b (.box ((boxAt st.H b).set i (.own st.H.length))) ++ [.arr e sz 0 []], st.k⟩ : St) = st' := by kernel_rfl) : AWP P K c st := AWP.weak (Weak.ownB b i e sz h1) (AWP.to_ e1 h)
theorem Ago (j : Nat) (st' : St) (h : AWP P K c st') (hb : isLive (st.H.getD j .unborn) = true := by kernel_rfl) (e1 : (⟨st.env, st.H.set j .gone, st.k⟩ : St) = st' := by kernel_rfl) : AWP P K c st := AWP.weak (Weak.gone j hb e1.symm) h
end
section
variable {P : Program} {t u : TypeId} {k : IntKind} {a b : Int}
theorem hb_max (ty : TypeId) (cs : Array Bool) (w : World) : (builtin .max #[t, u] ty cs #[.int k a, .int k b]).run P w = .ok (.value (.int k (max a b))) w := by
  simp [builtin, Builtin.max_, Builtin.max2]
  omega
end
end Go.Proofs.Ytelhmhmgaaebpaa.K

namespace Go.Proofs.Ytelhmhmgaaebpaa.K
open Go.RowKit Go.Lib
def notIface (P : Program) (t : TypeId) : Bool := match P.underlying t with
  | some (.interface _) => false
  | some _ => true
  | none => false
section
variable {P : Program} {o : Oper} {st : St}
theorem Oif {t : TypeId} {x : Operand} {v : Value} (ho : o.op = .makeInterface t x) (hx : opA st x = .d (.lit v) := by kernel_rfl) (ht : notIface P t = true := by kernel_rfl) : OpRun P o st (locOf x) (.d (.lit (.iface t v))) [] := by
  refine .pure fun st' hag cx m S a w hs => ⟨.iface t v, ?_, by simp only [Rep]; unfold RepD; exact ⟨rfl, rfl⟩⟩
  have h1 := op_lit hx (fun _ h => h) hag hs
  unfold notIface at ht
  cases hu : P.underlying t with
  | none => rw [hu] at ht; cases ht
  | some d =>
    rw [hu] at ht
    cases d <;> first | (simp at ht; done) | simp [execOp, ho, h1, Instr.makeInterface, run_underlying hu]
end
end Go.Proofs.Ytelhmhmgaaebpaa.K

namespace Go.Proofs.Ytelhmhmgaaebpaa.K
open Go.RowKit Go.Lib
section
variable {P : Program} {K : Exit → St → Prop} {b c : Code} {st : St}
theorem AWP.goto {l : Nat} (h : K (.goto l) st) : AWP P K (.goto l) st := fun cx m S a w hs => wp_goto ⟨st, m, S, h, hs⟩
theorem AWP.label {l : Nat} (h : K .normal st) : AWP P K (.label l) st := fun cx m S a w hs => wp_label ⟨st, m, S, h, hs⟩
theorem Then.goto {l : Nat} (h : K (.goto l) st) : Then P K b (.goto l) st := h
theorem InBlock.goto {l id : Nat} (h : K (.goto l) st) : InBlock id K (.goto l) st := h
theorem RoundK.goto {n l : Nat} (h : K (.goto l) st) : RoundK P K c n (.goto l) st := h
/-- Up to the label. -/
def LabK {α : Type} (S : α → St) (I : α → Prop) (K : Exit → St → Prop) : Exit → St → Prop
  | .normal, st => ∃ x, I x ∧ Weak st (S x)
  | .goto _, _ => False
  | e, st => K e st
/-- From the label on. -/
def JmpK {α : Type} (l : Nat) (S : α → St) (I : α → Prop) (μ : α → Nat) (n : Nat) (K : Exit → St → Prop) : Exit → St → Prop
  | .goto l', st => l' = l ∧ ∃ y, I y ∧ μ y < n ∧ Weak st (S y)
  | e, st => K e st
section
variable {α : Type} {S : α → St} {I : α → Prop} {μ : α → Nat} {l n : Nat}
theorem LabK.ret (h : K .ret st) : LabK S I K .ret st := h
theorem LabK.exit {id : Nat} (h : K (.exit id) st) : LabK S I K (.exit id) st := h
theorem JmpK.ret (h : K .ret st) : JmpK l S I μ n K .ret st := h
theorem JmpK.exit {id : Nat} (h : K (.exit id) st) : JmpK l S I μ n K (.exit id) st := h
theorem JmpK.normal (h : K .normal st) : JmpK l S I μ n K .normal st := h
end
end
section
variable {P : Program} {o : Oper} {st : St}
end
theorem take_rep {β : Type} {zs : List β} {n c : Nat} (h : n ≤ c) : ((List.replicate c zs).flatten).take (n * zs.length) = (List.replicate n zs).flatten := by
  obtain ⟨d, rfl⟩ : ∃ d, c = n + d := ⟨c - n, by omega⟩
  rw [← List.replicate_append_replicate, List.flatten_append]
  exact List.take_left' (by rw [List.length_flatten, List.map_replicate, List.sum_replicate_nat])
/-- A row's end is cleared. -/
theorem op_clear {P : Program} {o : Oper} {st : St} {t e sz by_ id a n k : Nat} {z : Value} {x : Operand} {xs : List D} (ho : o.op = .call ⟨.builtin .clear, #[x], #[t]⟩) (E : ElemOK P t e sz by_ z) (hone : z.cells.toList.all (·.oneCell') = true) (hx : opA st x = .sub id (a * sz) (k + 1)) (hb : st.H.getD id .unborn = .arr e sz n xs) (hxs : xs.length = n * sz) (hk : a + (k + 1) = n) :
    OpRun P o st (locOf x ++ [.blk id]) (.tup []) [(id, .arr e sz n (putC xs (a * sz) (List.replicate (k + 1) (z.cells.toList.map litD)).flatten))] := by
  refine .value fun st' hag cx m S act w hs => ?_
  have hb' : st'.H.getD id .unborn = .arr e sz n xs := (blk1 (by simp) hag).trans hb
  have hrd := op_rep hx (R := locOf x ++ [.blk id]) (fun l h => by simp [h]) hag hs
  have hok := hs.hold.ok id
  rw [hb'] at hok
  obtain ⟨v, h5, h6, h9⟩ := hok
  simp only [Rep, h5] at hrd
  obtain ⟨g, cp, hg, hev, _⟩ := hrd
  obtain ⟨i, hi, hz, h4, h5'⟩ := E.parts
  have hz1 := E.zs
  have h1 : ones z.cells.toList := fun v hv => List.all_eq_true.1 hone v hv
  have hmem : ones (List.replicate (k + 1) z.cells.toList).flatten := fun v hv => by
    obtain ⟨l, hl, hv⟩ := List.mem_flatten.1 hv
    rw [(List.mem_replicate.1 hl).2] at hv
    exact h1 v hv
  have hul : (List.replicate (k + 1) z.cells.toList).flatten.length = (k + 1) * sz := by rw [List.length_flatten, List.map_replicate, List.sum_replicate_nat, Array.length_toList, hz1]
  have hel : (List.replicate (k + 1) (z.cells.toList.map litD)).flatten.length = (k + 1) * sz := by rw [List.length_flatten, List.map_replicate, List.sum_replicate_nat, List.length_map, Array.length_toList, hz1]
  have hrep : RepsD S w (List.replicate (k + 1) (z.cells.toList.map litD)).flatten (List.replicate (k + 1) z.cells.toList).flatten := ⟨by rw [hul, hel], fun j x v hx hv => by
    have : (List.replicate (k + 1) (z.cells.toList.map litD)).flatten = ((List.replicate (k + 1) z.cells.toList).flatten).map litD := by rw [List.map_flatten, List.map_replicate]
    rw [this, List.getElem?_map, hv] at hx
    cases hx
    exact litD_rep (hmem v (List.mem_of_getElem? hv))⟩
  have hfit : a * sz + (List.replicate (k + 1) (z.cells.toList.map litD)).flatten.length ≤ xs.length := by
    rw [hel, hxs, ← hk, Nat.add_mul a]; exact Nat.le_refl _
  obtain ⟨cur, T, h10, h11, h12⟩ := rowOK_put h6 hg hrep hmem hfit
  have hst := run_storeCells_row P g (a * sz) T (List.replicate (k + 1) z.cells.toList).flatten 0 cur w h10 (by simpa using h11) hmem
  simp only [Nat.add_zero] at hst
  have hflat : (Builtin.zeroCells z.cells (k + 1)).toList = (List.replicate (k + 1) z.cells.toList).flatten := made_flat z.cells (k + 1) (by rw [hz1]; exact E.pos)
  have hrun : (Builtin.clear_ #[t] o.type #[.slice (some ⟨g, a * sz, none⟩) (k + 1) cp]).run P w = .ok (.tuple #[]) (w.setRow g (putC cur.toList (a * sz) (List.replicate (k + 1) z.cells.toList).flatten).toArray) := by
    simp [Builtin.clear_, run_underlying E.slice, zeroValue, typeInfo, hi, hz, hflat, hst, putC]
  have hw := hs.hold.write (w' := w.setRow g (putC cur.toList (a * sz) (List.replicate (k + 1) z.cells.toList).flatten).toArray) (b := .arr e sz n (putC xs (a * sz) (List.replicate (k + 1) (z.cells.toList.map litD)).flatten)) h5 hg (h9 g hg) rfl rfl rfl (by simp [World.setRow])
    (fun k hk hne => setRow_other w g k _ hne) (fun hK => ⟨v, h5, h12 (fun fz h => setRow_heap w g cur _ T fz h) (fun _ h => h) hK, h9⟩)
  refine ⟨.tuple #[], _, m, S, ?_, Le.refl m, fun _ h => h, hw.1, hw.2, by simp [Rep, Reps]⟩
  simp [execOp, ho, resolve, invoke, builtin, hev, hrun]
def clr {α : Type} (l : List α) (a : Nat) (z : α) : List α := l.take a ++ List.replicate (l.length - a) z
theorem clr_len {α : Type} {l : List α} {a : Nat} {z : α} (h : a < l.length) : (clr l a z).length = l.length := by
  unfold clr; rw [List.length_append, List.length_take, List.length_replicate]; omega
theorem clr_put {α : Type} {enc : α → List D} {l : List α} {a sz : Nat} {z0 : α} {zs : List D} (hl : ∀ a, (enc a).length = sz) (ha : a < l.length) (hz : zs = enc z0) : putC (flatD enc l) (a * sz) (List.replicate (l.length - a - 1 + 1) zs).flatten = flatD enc (clr l a z0) := by
  have e1 : (flatD enc l).take (a * sz) = flatD enc (l.take a) := by
    have := flat_cut (l := l) hl (a := 0) (b := a)
    simpa using this
  have e2 : (flatD enc l).drop (a * sz + (flatD enc (List.replicate (l.length - a) z0)).length) = [] := by
    apply List.drop_eq_nil_of_le
    rw [flatD_length hl, flatD_length hl, List.length_replicate, ← Nat.add_mul]
    exact Nat.mul_le_mul_right _ (by omega)
  rw [show l.length - a - 1 + 1 = l.length - a by omega, flat_rep hz]
  unfold putC clr
  rw [e1, e2, List.append_nil, flatD_append]
theorem Ocl {P : Program} {o : Oper} {st : St} {α : Type} {enc : α → List D} {l : List α} {a e sz by_ t id : Nat} {z : Value} {z0 : α} {x : Operand} (ho : o.op = .call ⟨.builtin .clear, #[x], #[t]⟩) (E : ElemOK P t e sz by_ z) (hl : ∀ a, (enc a).length = sz) (ha : a < l.length) (hz : z.cells.toList.map litD = enc z0 := by kernel_rfl) (hone : z.cells.toList.all (·.oneCell') = true := by kernel_rfl)
    (hx : opA st x = .sub id (a * sz) (l.length - a - 1 + 1) := by kernel_rfl) (hb : st.H.getD id .unborn = .arr e sz l.length (flatD enc l) := by kernel_rfl) :
    OpRun P o st (locOf x ++ [.blk id]) (.tup []) [(id, .arr e sz (clr l a z0).length (flatD enc (clr l a z0)))] := by
  rw [← clr_put hl ha hz, clr_len ha]
  exact op_clear ho E hone hx hb (flatD_length hl l) (by omega)
/-- A row's end as a part of it. -/
theorem Osb {P : Program} {o : Oper} {st : St} {α : Type} {enc : α → List D} {l : List α} {a e sz t id : Nat} {k : IntKind} {iv : Int} {x y : Operand} (ho : o.op = .slice t x (some y) none none) (hl : ∀ a, (enc a).length = sz) (ha : a < l.length) (hiv : iv = (a : Int)) (hsz : Nat.blt 0 sz = true := by rfl) (he : sliceElem P t = some (e, sz) := by kernel_rfl) (hx : opA st x = .own id := by kernel_rfl)
    (hb : st.H.getD id .unborn = .arr e sz l.length (flatD enc l) := by kernel_rfl) (hy : opA st y = .d (.lit (.int k iv)) := by kernel_rfl) : OpRun P o st (locsOf (x :: ((some y).toList ++ (none : Option Operand).toList)) ++ locA (.own id)) (.sub id (a * sz) (l.length - a - 1 + 1)) [] := by
  have hs : sliceAt st.H (.own id) = some (flatD enc l, 0, l.length) := by simp only [sliceAt, hb]
  have := op_slice (l := a) (h := l.length) ho he hx hs ⟨k, iv, hy, hiv⟩ rfl (by omega) (Nat.le_refl _) (.inl ha) (by
    show a * sz < (flatD enc l).length
    rw [flatD_length hl]
    exact Nat.mul_lt_mul_of_pos_right ha (Nat.le_of_ble_eq_true hsz))
  rw [show l.length - a - 1 + 1 = l.length - a by omega]
  exact this
end Go.Proofs.Ytelhmhmgaaebpaa.K

namespace Go.Proofs.Ytelhmhmgaaebpaa.K
open Go.RowKit Go.Lib

/-! ### equality of whatever is plain cells -/
section
variable {P : Program}
end
section
variable {P : Program} {o : Oper} {st : St}
/-! ### nil -/
theorem Ocn {t : TypeId} {x hi : Operand} {k : IntKind} (ho : o.op = .slice t x none (some hi) none) (he : (sliceElem P t).isSome = true) (hx : opA st x = .d .nil := by kernel_rfl) (hh : opA st hi = .d (.lit (.int k 0)) := by kernel_rfl) : OpRun P o st (locsOf [x, hi]) (.d .nil) [] := by
  refine .pure fun st' hag cx m S a w hs => ?_
  have e1 := op_rep hx (R := locsOf [x, hi]) (fun l h => by simp [locsOf, h]) hag hs
  have e2 := op_lit hh (R := locsOf [x, hi]) (fun l h => by simp [locsOf, h]) hag hs
  simp only [Rep, RepD] at e1
  obtain ⟨⟨e, sz⟩, he⟩ := Option.isSome_iff_exists.1 he
  have := run_slice (P := P) (w := w) ho he e1 (lo := none) (hi := some hi) (l := 0) (h := 0) rfl ⟨k, e2⟩ (Nat.le_refl _) (Nat.le_refl _)
  exact ⟨_, this, by simp only [Rep, RepD]; rfl⟩
theorem Ocap {t e : TypeId} {x : Operand} (ho : o.op = .call ⟨.builtin .cap, #[x], #[t]⟩) (hu : P.underlying t = some (.slice e)) (hx : opA st x = .d .nil := by kernel_rfl) : OpRun P o st (locOf x) (.d (.lit (.int .i64 0))) [] := by
  refine .pure fun st' hag cx m S a w hs => ⟨.int .i64 0, ?_, by simp only [Rep]; unfold RepD; exact ⟨rfl, rfl⟩⟩
  have e1 := op_rep hx (R := locOf x) (fun l h => h) hag hs
  simp only [Rep, RepD] at e1
  simp [execOp, ho, resolve, invoke, builtin, Builtin.cap_, run_underlying hu, e1, goInt]
/-- zeros appended to nil: a new row. -/
theorem OapZ {t tn e sz by_ nid n : Nat} {z : Value} {s x : Operand} {kq kn : IntKind} {L : Int} (ho : o.op = .call ⟨.builtin .append, #[s, x], #[t, tn]⟩) (E : ElemOK P t e sz by_ z) (htn : P.underlying tn = some (.int kn)) (hone : z.cells.toList.all (·.oneCell') = true) (hL : L = (n : Int)) (h0 : 0 < n) (hn : n ≤ 1000000000) (hb : Nat.ble by_ 140000 = true := by rfl)
    (hs0 : opA st s = .d .nil := by kernel_rfl) (hx : opA st x = .d (.lit (.int kq L)) := by kernel_rfl) (hnid : st.H.getD nid .unborn = .unborn := by kernel_rfl) :
    OpRun P o st (locsOf [s, x] ++ [.blk nid]) (.own nid) [(nid, .arr e sz n (List.replicate n (z.cells.toList.map litD)).flatten)] := by
  refine .value fun st' hag cx m S a w hs => ?_
  have hnid' : st'.H.getD nid .unborn = .unborn := (blk1 (by simp) hag).trans hnid
  have e1 := op_rep hs0 (R := locsOf [s, x] ++ [.blk nid]) (fun l h => by simp [locsOf, h]) hag hs
  have e2 := op_lit hx (R := locsOf [s, x] ++ [.blk nid]) (fun l h => by simp [locsOf, h]) hag hs
  simp only [Rep, RepD] at e1
  obtain ⟨i, hi, hz, h4, h5⟩ := E.parts
  have hb' : by_ ≤ 140000 := Nat.le_of_ble_eq_true hb
  have hbytes : n * by_ ≤ 140000000000000 := Nat.le_trans (Nat.mul_le_mul hn hb') (by decide)
  have hrun := run_append_nil_zeros (P := P) w t tn o.type e i z kq kn E.slice htn hi hz n h0 (by rw [h4]; exact E.pos) (by omega) (by rw [h5]; omega)
  have hz1 := E.zs
  have h1 : ones z.cells.toList := fun v hv => List.all_eq_true.1 hone v hv
  have hge := grownCap_ge w n 0 e
  have hcm := grownCap_le_maxLen w n 0 e (by unfold maxLen; omega)
  generalize hcp : grownCap w n 0 e = cp at hge hcm hrun
  have fl : ∀ k, (Builtin.zeroCells z.cells k).toList = (List.replicate k z.cells.toList).flatten := fun k => made_flat z.cells k (by rw [hz1]; exact E.pos)
  have hflat : (Builtin.zeroCells z.cells n ++ Builtin.zeroCells z.cells (cp - n)).toList = (List.replicate cp z.cells.toList).flatten := by
    rw [Array.toList_append, fl, fl, ← List.flatten_append, List.replicate_append_replicate]
    congr 2; omega
  have hmem : ∀ v ∈ (List.replicate n z.cells.toList).flatten, v.oneCell' = true := fun v hv => by
    obtain ⟨l, hl, hv⟩ := List.mem_flatten.1 hv
    rw [(List.mem_replicate.1 hl).2] at hv
    exact h1 v hv
  have hlen : (Builtin.zeroCells z.cells n ++ Builtin.zeroCells z.cells (cp - n)).size = cp * sz := by
    rw [Array.size_append, size_zeroCells, size_zeroCells, hz1, ← Nat.add_mul]; congr 1; omega
  have hul : (List.replicate n z.cells.toList).flatten.length = n * sz := by rw [List.length_flatten, List.map_replicate, List.sum_replicate_nat, Array.length_toList, hz1]
  have hd := hs.hold.drew
  obtain ⟨m', k1, k2, k3, k4⟩ := hold_row (e := e) (sz := sz) (n := n) (cap := cp) (ds := (List.replicate n (z.cells.toList.map litD)).flatten) (us := (List.replicate n z.cells.toList).flatten) (cur := Builtin.zeroCells z.cells n ++ Builtin.zeroCells z.cells (cp - n)) hd hnid'
    ⟨by rw [List.length_flatten, List.length_flatten, List.map_replicate, List.map_replicate, List.length_map], fun j x v hx hv => by
      have : (List.replicate n (z.cells.toList.map litD)).flatten = ((List.replicate n z.cells.toList).flatten).map litD := by rw [List.map_flatten, List.map_replicate]
      rw [this, List.getElem?_map, hv] at hx
      cases hx
      exact litD_rep (hmem v (List.mem_of_getElem? hv))⟩ hmem hul hge hcm hlen (by
        have := take_rep (zs := z.cells.toList) hge
        rw [Array.length_toList, hz1] at this
        rw [hflat]; first | exact this | (rw [hul]; exact this))
  refine ⟨_, _, m', S, ?_, k1, fun _ h => h, fun b hb => k2 b hb, k3, k4 _⟩
  subst hL
  simp [execOp, ho, resolve, invoke, builtin, e1, e2, hrun]
/-! ### a row's mark -/
/-! ### an array's cells as a slice -/
end
/-- An element's address in a part of an own row. -/
theorem Ois {P : Program} {o : Oper} {st : St} {t sz n id e' sz' n' : Nat} {x ix : Operand} {iv at_ : Int} {q : Prop} {ds : List D} (ho : o.op = .indexAddr t x ix) (hc : 0 ≤ at_ ∧ q) (h : 0 ≤ iv ∧ iv < ((n : Nat) : Int))
    (hx : opA st x = .sub id (Int.toNat at_ * sz) n := by kernel_rfl) (hb : st.H.getD id .unborn = .arr e' sz' n' ds := by kernel_rfl) (he : (sliceElem P t).map Prod.snd = some sz := by kernel_rfl) (hix : intOf (opA st ix) = some iv := by kernel_rfl) :
    OpRun P o st (locsOf [x, ix] ++ locA (opA st x)) (.loc id (Int.toNat (at_ + iv) * sz)) [] := by
  obtain ⟨k, hk⟩ := intOf_spec hix
  cases hs : sliceElem P t with
  | none => rw [hs] at he; cases he
  | some q =>
    obtain ⟨e, s⟩ := q
    rw [hs] at he
    cases he
    refine (op_iaddr (i := Int.toNat iv) (off := Int.toNat at_ * s) (n := n) (ds := ds) ho rfl (by rw [hx]; simp only [sliceAt, hb]) hs hk (by omega) (by omega)).cast ?_
    rw [hx]
    simp only [elemA]
    rw [show Int.toNat (at_ + iv) = Int.toNat at_ + Int.toNat iv by omega, Nat.add_mul]
end Go.Proofs.Ytelhmhmgaaebpaa.K

namespace Go.Proofs.Ytelhmhmgaaebpaa.K
open Go.RowKit Go.Lib
section
variable {P : Program} {o : Oper} {st : St}
end
end Go.Proofs.Ytelhmhmgaaebpaa.K

namespace Go.Proofs.Ytelhmhmgaaebpaa.K
open Go.RowKit Go.Lib
abbrev W6 (n : Int) : Int := IntKind.i64.wrap n
abbrev W7 (n : Int) : Int := IntKind.u64.wrap n
abbrev A.u (n : Int) : A := .d (.lit (.int .u64 n))
abbrev Ar {α : Type} (e sz : Nat) (enc : α → List D) (l : List α) : Blk := .arr e sz (List.length l) (flatD enc l)
section
variable {P : Program} {ops : Array Oper} {K : St → List Ef → Prop} {o : Oper} {l : List Oper} {st : St} {F : List Ef}
theorem Wz (val : A) {R : List Loc} (hop : OpRun P o st R val []) (h : Walk P ops K l (st.put o.dst val []) (F ++ [⟨o.dst, val, [], gLoc ops o ++ R⟩])) (hg : gYes ops st o = true := by kernel_rfl) : Walk P ops K (o :: l) st F := Walk.yes hg hop h
theorem Wm (val : A) {x : Operand} (ho : mvOf o.op = some x) (h : Walk P ops K l (st.put o.dst val []) (F ++ [⟨o.dst, val, [], gLoc ops o ++ locOf x⟩])) (hv : opA st x = val := by kernel_rfl) (hg : gYes ops st o = true := by kernel_rfl) : Walk P ops K (o :: l) st F := Walk.yes hg ((op_move ho).cast hv) h
/-- The same, the bit being known. -/
theorem Oq {x : Operand} {b c : Bool} (hb : b = c) (ho : mvOf o.op = some x) (hv : opA st x = .d (.lit (.bool b)) := by kernel_rfl) : OpRun P o st (locOf x) (.d (.lit (.bool c))) [] := Ocs (lit_tf hb) (Omv ho hv)
theorem Ob2 {op : BinOp} {t u : TypeId} {x y : Operand} {v : Value} {val : A} (a1 a2 : Value) (ho : o.op = .binOp op t x y u) (hrun : ∀ w, (do eqGuard op t x y a1 a2; binOp op t a1 a2 : Sem Value).run P w = .ok v w)
    (e : A.d (.lit v) = val := by kernel_rfl) (hx : opA st x = .d (.lit a1) := by kernel_rfl) (hy : opA st y = .d (.lit a2) := by kernel_rfl) (h1 : v.oneCell' = true := by rfl) : OpRun P o st (locsOf [x, y]) val [] := Ocs e (op_bin ho hx hy hrun h1)
theorem Oc2 {s t : TypeId} {x : Operand} {v : Value} {val : A} (a1 : Value) (ho : o.op = .convert s t x) (hrun : ∀ w, (convert s t a1).run P w = .ok v w) (e : A.d (.lit v) = val := by kernel_rfl) (hx : opA st x = .d (.lit a1) := by kernel_rfl) (h1 : v.oneCell' = true := by rfl) :
    OpRun P o st (locOf x) val [] := Ocs e (op_convert ho hx hrun h1)
theorem Wn0 (h : K st F) : Walk P ops K [] st F := h
end
section
variable {P : Program} {K : Exit → St → Prop} {b c x y : Code} {st : St} {id : Nat} {l : List Oper} {F : List Ef} {ops : Array Oper} {q : Operand} {z : Bool}
theorem AiT (hz : z = true) (h : AWP P K x st) (hc : opA st q = .d (.lit (.bool z)) := by kernel_rfl) : AWP P K (.cond q x y) st := AWP.if_ true (Eq.trans hc (lit_tf hz)) h
theorem AiF (hz : z = false) (h : AWP P K y st) (hc : opA st q = .d (.lit (.bool z)) := by kernel_rfl) : AWP P K (.cond q x y) st := AWP.if_ false (Eq.trans hc (lit_tf hz)) h
theorem Sq (h : AWP P (Then P K c) b st) : AWP P K (.seq b c) st := AWP.seq h
theorem Tx (h : Walk P l.toArray (fun st' _ => K .normal st') l st []) : AWP P K (.region id l.toArray false) st := AWP.text h
theorem Sx (h : Walk P l.toArray (fun st' _ => Then P K c .normal st') l st []) : AWP P K (.seq (.region id l.toArray false) c) st := AWP.seq (AWP.text h)
theorem Tn (h : AWP P K b st) : Then P K b .normal st := h
theorem Nn (h : AWP P K b st) : Walk P ops (fun st' _ => Then P K b .normal st') [] st F := h
theorem Nk (ks kb : Nat) (st' : St) (h : AWP P K b st') (e : (⟨maskE ks 0 0 st.env, maskH kb 0 st.H, st.k⟩ : St) = st' := by kernel_rfl) : Walk P ops (fun st' _ => Then P K b .normal st') [] st F := Amk ks kb st' h e
theorem Tk (ks kb : Nat) (st' : St) (h : AWP P K b st') (e : (⟨maskE ks 0 0 st.env, maskH kb 0 st.H, st.k⟩ : St) = st' := by kernel_rfl) : Then P K b .normal st := Amk ks kb st' h e
theorem Rt (h : K .ret st) : AWP P K .ret st := AWP.ret h
theorem Sk (h : K .normal st) : AWP P K .skip st := AWP.skip h
theorem Bk (h : AWP P (InBlock id K) b st) : AWP P K (.block id b) st := AWP.block h
theorem Ir {id : Nat} (h : K .ret st) : InBlock id K .ret st := h
theorem Ino {id : Nat} (h : K .normal st) : InBlock id K .normal st := h
theorem Tr (h : K .ret st) : Then P K b .ret st := h
end
end Go.Proofs.Ytelhmhmgaaebpaa.K

namespace Go.Proofs.Ytelhmhmgaaebpaa.K
open Go.RowKit Go.Lib
/-- An own row's cells. -/
def rowA : Blk → Option (Nat × Nat × Nat × List A)
  | .arr e sz n xs => some (e, sz, n, xs.map .d)
  | .rows e sz n xs k a => some (e, sz, n, (xs.map .d).set k a)
  | _ => none
def RowsOK (m : Mp) (S : Nat → Prop) (w : World) (e sz n : Nat) (xs : List A) (v : Value) : Prop := ∃ cells, OwnsR w e sz v n cells ∧ Reps m S w xs cells ∧ ones cells
theorem reps_d {m : Mp} {S : Nat → Prop} {w : World} {xs : List D} {vs : List Value} (h : RepsD S w xs vs) : Reps m S w (xs.map .d) vs :=
  Reps.of (by rw [List.length_map]; exact h.1) fun i x v hx hv => by
    rw [List.getElem?_map] at hx
    cases hd : xs[i]? with
    | none => rw [hd] at hx; cases hx
    | some y => rw [hd] at hx; cases hx; simp only [Rep]; exact h.2 i y v hd hv
theorem rowA_ok {m : Mp} {S : Nat → Prop} {w : World} {id : Nat} {b : Blk} {e sz n : Nat} {xs : List A} (h : rowA b = some (e, sz, n, xs)) (hb : BlkOK m S w id b) : ∃ v, m id = some (.arr v) ∧ RowsOK m S w e sz n xs v ∧ ∀ g, v.ownBlock = some g → ¬ S g := by
  cases b with
  | arr e' sz' n' ds =>
    cases h
    obtain ⟨v, h1, ⟨cells, h2, h3, h4⟩, h5⟩ := hb
    exact ⟨v, h1, ⟨cells, h2, reps_d h3, h4⟩, h5⟩
  | rows e' sz' n' ds k a =>
    cases h
    exact hb
  | _ => cases h
theorem rows_slice {m : Mp} {S : Nat → Prop} {w : World} {e sz n : Nat} {xs : List A} {v : Value} (h : RowsOK m S w e sz n xs v) : ∃ a cap, v = .slice a n cap ∧ n ≤ cap ∧ cap ≤ maxLen ∧ (a = none → n = 0 ∧ cap = 0) ∧ (∀ p, a = some p → ∃ g, p = ⟨g, 0, none⟩ ∧ v.ownBlock = some g) := by
  obtain ⟨cells, ⟨hl, ⟨rfl, rfl⟩ | ⟨g, cap, cur, rfl, _, hh, hn, hm, hs, ht⟩⟩, hr, h1⟩ := h
  · exact ⟨none, 0, rfl, Nat.le_refl _, Nat.zero_le _, fun _ => ⟨rfl, rfl⟩, fun p hp => by cases hp⟩
  · exact ⟨_, cap, rfl, hn, hm, (fun h => by cases h), fun p hp => ⟨g, by cases hp; rfl, rfl⟩⟩
section
variable {P : Program} {o : Oper} {st : St}
theorem op_lenR {t e' id e sz n : Nat} {x : Operand} {xs : List A} (ho : o.op = .call ⟨.builtin .len, #[x], #[t]⟩) (hu : P.underlying t = some (.slice e')) (hx : opA st x = .own id) (hb : rowA (st.H.getD id .unborn) = some (e, sz, n, xs)) :
    OpRun P o st (locOf x ++ [.blk id]) (.d (.lit (.int .i64 n))) [] := by
  refine .pure fun st' hag cx m S a w hs => ⟨.int .i64 n, ?_, by simp only [Rep]; unfold RepD; exact ⟨rfl, rfl⟩⟩
  have hr := op_rep hx (R := locOf x ++ [.blk id]) (fun l h => by simp [h]) hag hs
  have hb' : st'.H.getD id .unborn = st.H.getD id .unborn := blk1 (by simp) hag
  obtain ⟨v, h1, h2, _⟩ := rowA_ok hb (by rw [← hb']; exact hs.hold.ok id)
  simp only [Rep, h1] at hr
  obtain ⟨a', cap, hv, _⟩ := rows_slice h2
  rw [hv] at hr
  simp [execOp, ho, resolve, invoke, builtin, Builtin.len_, run_underlying hu, hr.1, goInt]
theorem op_iaddrR {t id e e' sz n i : Nat} {x ix : Operand} {xs : List A} {k : IntKind} {iv : Int} (ho : o.op = .indexAddr t x ix) (hy : opA st x = .own id) (hb : rowA (st.H.getD id .unborn) = some (e, sz, n, xs)) (he : sliceElem P t = some (e', sz))
    (hi : opA st ix = .d (.lit (.int k iv))) (hiv : iv = (i : Int)) (hin : i < n) : OpRun P o st (locsOf [x, ix] ++ [.blk id]) (.loc id (i * sz)) [] := by
  refine .pure fun st' hag cx m S a w hs => ?_
  have hr := op_rep hy (R := locsOf [x, ix] ++ [.blk id]) (fun l h => by simp [locsOf, h]) hag hs
  have hix := op_lit hi (R := locsOf [x, ix] ++ [.blk id]) (fun l h => by simp [locsOf, h]) hag hs
  have hb' : st'.H.getD id .unborn = st.H.getD id .unborn := blk1 (by simp) hag
  obtain ⟨v, h1, h2, _⟩ := rowA_ok hb (by rw [← hb']; exact hs.hold.ok id)
  simp only [Rep, h1] at hr
  obtain ⟨a', cap, hv, _, _, h3, h4⟩ := rows_slice h2
  obtain ⟨hu, inf, hinf, hsz⟩ := sliceElem_spec he
  cases ha : a' with
  | none => have := (h3 ha).1; omega
  | some p =>
    obtain ⟨g, rfl, hg⟩ := h4 p ha
    rw [hv, ha] at hr
    subst hiv
    have h0 : (0 : Int) ≤ i ∧ (i : Int) < n := by omega
    refine ⟨.pointer (some ⟨g, i * sz, none⟩), ?_, ?_⟩
    · simp [execOp, ho, Instr.indexAt, hix, asIntOf, run_underlying hu, hr.1, sizeOf, typeInfo, hinf, hsz, hin]
      rw [addr_add, Nat.zero_add]
    · simp only [Rep, h1]; exact ⟨g, hg, rfl⟩
/-- The own cell is filled with what is frozen. -/
theorem op_fillHole {t : TypeId} {x y : Operand} {id e sz n k : Nat} {ds : List D} {a : A} {z : D} (ho : o.op = .store t x y) (hx : opA st x = .loc id k) (hb : st.H.getD id .unborn = .rows e sz n ds k a) (hy : opA st y = .d z) (hz : cellsOf (.d z) = some [.d z]) (hn : sizeT P t = some 1) (hfit : k < ds.length) :
    OpRun P o st (locsOf [x, y] ++ [.blk id]) (.tup []) [(id, .arr e sz n (ds.set k z.nn))] := by
  refine .skip fun st' hag cx m S ac w hs => ?_
  have hr := op_rep hx (R := locsOf [x, y] ++ [.blk id]) (fun l h => by simp [locsOf, h]) hag hs
  have hv := op_rep hy (R := locsOf [x, y] ++ [.blk id]) (fun l h => by simp [locsOf, h]) hag hs
  have hb' : st'.H.getD id .unborn = .rows e sz n ds k a := (blk1 (by simp) hag).trans hb
  have hok := hs.hold.ok id
  rw [hb'] at hok
  obtain ⟨v', h1, ⟨cells, ho2, hr2, h2⟩, h3⟩ := hok
  simp only [Rep, h1] at hr
  obtain ⟨g, hg, hr⟩ := hr
  obtain ⟨h6, h7⟩ := cellsOf_spec hz hv
  have hlen := h6.length
  have hlr := hr2.length
  simp only [List.length_set, List.length_map] at hlr
  obtain ⟨u, hu⟩ : ∃ u, (ac.eval y).cells.toList = [u] := by
    match hq : (ac.eval y).cells.toList, hlen with
    | [u], _ => exact ⟨u, rfl⟩
  have hru : RepD S w z u := by rw [hu] at h6; simp only [Reps] at h6; obtain ⟨v0, r0, e0, h8, _⟩ := h6; cases e0; simpa only [Rep] using h8
  obtain ⟨hl, ⟨rfl, rfl⟩ | ⟨g', cap, cur, rfl, hB, hh, hn2, hm, hs2, ht⟩⟩ := ho2
  · simp [Value.ownBlock] at hg
  simp only [Value.ownBlock, Option.some.injEq] at hg
  subst hg
  have hcl : cells.length ≤ cur.size := by rw [← ht]; simp; omega
  have hrun := run_storeV (P := P) (t := t) (off := k) (v := ac.eval y) hh hn (by simpa using hlen) (by omega) h7
  rw [hu] at hrun h7
  have hpc : ∀ l : List Value, k < l.length → putC l k [u] = l.set k u := fun l hk => by
    apply List.ext_getElem?
    intro i
    rw [putC_get _ _ _ _ (by omega), List.getElem?_set]
    by_cases h1 : i < k
    · rw [if_pos h1, if_neg (by omega)]
    · rw [if_neg h1]
      by_cases h2 : i = k
      · subst h2
        rw [if_pos (by simp), if_pos rfl, if_pos hk]; simp
      · rw [if_neg (by simp; omega), if_neg (by omega)]
  have hK0 : ∀ fz, w.heap[g']? = some (.cells cur e fz) → (w.setRow g' (putC cur.toList k [u]).toArray).heap[g']? = some (.cells (putC cur.toList k [u]).toArray e fz) := fun fz h => setRow_heap w g' cur _ e fz h
  have hw := hs.hold.write (w' := w.setRow g' (putC cur.toList k [u]).toArray) (b := .arr e sz n (ds.set k z.nn)) h1 rfl (h3 g' rfl) rfl rfl rfl (by simp [World.setRow])
    (fun b hb hne => setRow_other w g' b _ hne) (fun hK => by
      refine ⟨_, h1, ⟨cells.set k u, ⟨by rw [List.length_set]; exact hl, .inr ⟨g', cap, _, rfl, hB, hh.put (by simp only [List.size_toArray]; rw [putC_length (by simp; omega)]; simp) hK0, hn2, hm, ?_, ?_⟩⟩, ⟨by rw [List.length_set, List.length_set]; exact hlr, fun i x v hx hv => ?_⟩, ?_⟩, h3⟩
      · simp only [List.size_toArray]
        rw [putC_length (by simp; omega)]; simpa using hs2
      · simp only []
        rw [putC_take _ _ _ _ (by simp; omega) (by have := Nat.mul_le_mul_right sz hn2; simp; omega), ht, hpc _ (by omega)]
      · rw [List.getElem?_set] at hx hv
        split at hx
        · rename_i e1
          subst e1
          rw [if_pos rfl] at hv
          rw [if_pos (by omega)] at hv
          cases hx; cases hv
          exact (RepD.mono (fun _ h => h) hK _ _ hru).nn
        · rename_i e1
          rw [if_neg e1] at hv
          have k1 := hr2.at i (.d x) (by rw [List.getElem?_set, if_neg e1, List.getElem?_map, hx]; rfl)
          obtain ⟨v0, h8, h9⟩ := k1
          rw [h8] at hv; cases hv
          simp only [Rep] at h9
          exact RepD.mono (fun _ h => h) hK _ _ h9
      · intro v hv
        rcases List.mem_or_eq_of_mem_set hv with h | h
        · exact h2 v h
        · subst h; exact h7 v (by simp))
  refine ⟨_, m, S, ?_, Le.refl m, fun _ h => h, hw.1, hw.2⟩
  simp [execOp, ho, Instr.storeAt, Instr.sureAddr, hr, hrun]
theorem hold_rows {cx : Cx} {m : Mp} {S : Nat → Prop} {w : World} {H : List Blk} {id : Nat} (h : Hold cx m S w H) (hid : H.getD id .unborn = .unborn) {e sz n k : Nat} {ds : List D} {a : A} {xs : List A} (hx : (ds.map .d).set k a = xs) {us : List Value} {cur : Array Value} {cap : Nat} (hr : Reps m S w xs us) (h1 : ones us)
    (hl : us.length = n * sz) (hn : n ≤ cap) (hm : cap ≤ maxLen) (hs : cur.size = cap * sz) (ht : cur.toList.take (n * sz) = us) :
    ∃ m', Le m m' ∧ Keeps S w (w.alloc (.cells cur e)) ∧ Hold cx m' S (w.alloc (.cells cur e)) (setAt H id (.rows e sz n ds k a)) ∧ ∀ w', Rep m' S w' (.own id) (.slice (some ⟨w.heap.size, 0, none⟩) n cap) := by
  have := h.alloc hid (.arr (.slice (some ⟨w.heap.size, 0, none⟩) n cap)) rfl (.cells cur e) (.rows e sz n ds k a) fun hK hLe =>
    ⟨_, by simp [updM], ⟨us, ⟨hl, .inr ⟨w.heap.size, cap, cur, rfl, Nat.zero_le _, RowAt.of (heap_alloc_new w _), hn, hm, hs, ht⟩⟩, by rw [hx]; exact Reps.mono hLe (fun _ h => h) hK _ _ hr, h1⟩, fun g hg hS => by
      simp only [Value.ownBlock, Option.some.injEq] at hg; subst hg; have := (h.s _ hS).2; omega⟩
  exact ⟨_, this.1, this.2.1, this.2.2, fun w' => by simp [Rep, updM, Value.oneCell']⟩
/-- A slice literal with one own cell. -/
theorem op_buildSliceH {t e sz len id k : Nat} {a0 : A} {parts : List (Nat × Operand)} {zs ys : List A} {ds : List D} (ho : o.op = .buildSlice t len parts.toArray) (he : sliceElem P t = some (e, sz)) (hz : zeroA P e = some zs) (hzl : zs.length = sz) (hsz : 0 < sz)
    (hbig : Nat.ble (len * sz) 16777216 = true) (hf : fillA ((List.range len).map fun i => (i * sz, sz)) (List.replicate (len * sz) .top) (partsA st parts) = some ys) (hd : (ds.map .d).set k a0 = ys) (hyl : ys.length = len * sz) (hid : st.H.getD id .unborn = .unborn) :
    OpRun P o st (partLocs parts ++ [.blk id]) (.own id) [(id, .rows e sz len ds k a0)] := by
  refine .value fun st' hag cx m S a w hs => ?_
  have hid' : st'.H.getD id .unborn = .unborn := (blk1 (by simp) hag).trans hid
  obtain ⟨hu, inf, hinf, hsz'⟩ := sliceElem_spec he
  obtain ⟨i, z, hi, hzz, h1, rfl⟩ := zeroA_spec hz
  rw [hinf] at hi; cases hi
  have hzs : z.cells.size = sz := by simpa using hzl
  have hle : len * sz ≤ 16777216 := by simpa [Nat.ble_eq] using hbig
  have ones0 : ones ((Array.range (len * sz)).map (fun k => z.cells[k % z.cells.size]!)).toList := by
    intro v hv
    simp only [Array.toList_map, Array.toList_range, List.mem_map, List.mem_range] at hv
    obtain ⟨k, hk, rfl⟩ := hv
    have hlt : k % z.cells.size < z.cells.size := Nat.mod_lt _ (by omega)
    rw [getElem!_pos z.cells _ hlt]
    exact h1 _ (by simp)
  have reps0 : Reps m S w (List.replicate (len * sz) A.top) ((Array.range (len * sz)).map (fun k => z.cells[k % z.cells.size]!)).toList := Reps.of (by simp) fun j x v hx hv => by
    rw [List.getElem?_replicate] at hx
    split at hx
    · cases hx; simp only [Rep]
    · cases hx
  obtain ⟨cells, h2, h3, h4⟩ := fill_spec (m := m) (S := S) (w := w) (pl := fun i => some (i * sz, sz)) (fun i q h => by
      rw [List.getElem?_map] at h
      cases hr : (List.range len)[i]? with
      | none => rw [hr] at h; cases h
      | some k =>
        rw [hr] at h; cases h
        obtain ⟨hjl, hk⟩ := List.getElem?_eq_some_iff.1 hr
        simp at hk; subst hk; rfl) (vparts := parts.map fun p => (p.1, a.eval p.2)) hf reps0 ones0 (by simp [partsA]) (parts_reps (R := partLocs parts ++ [.blk id]) (fun l h => by simp [h]) hag hs)
  have hl3 := h3.length
  have hlen : cells.size = len * sz := by simp at hl3; omega
  have hmx : len ≤ maxLen := by
    have := Nat.le_mul_of_pos_right len hsz
    unfold maxLen; omega
  obtain ⟨m', k1, k2, k3, k4⟩ := hold_rows (e := e) (sz := sz) (n := len) (cap := len) (cur := cells) hs.hold hid' hd h3 h4 (by simpa using hlen) (Nat.le_refl _) hmx hlen (by rw [List.take_of_length_le (by simp [hlen])])
  refine ⟨_, _, m', S, ?_, k1, fun _ h => h, k2, k3, k4 _⟩
  have ep : (parts.toArray.map fun p : Nat × Operand => (p.1, a.eval p.2)).toList = parts.map fun p => (p.1, a.eval p.2) := by simp
  simp only [execOp, ho, Instr.buildSlice, Sem.run_bind]
  simp only [run_underlying hu, sizeOf, typeInfo, hinf, Sem.run_bind, run_program, Result.andThen_ok, Sem.run_pure, hsz']
  rw [if_neg (by omega)]
  by_cases h0 : len * sz = 0
  · rw [if_pos h0]
    simp only [Sem.run_bind, Sem.run_pure, Result.andThen_ok]
    have e0 : ((Array.range (len * sz)).map (fun k => (#[] : Array Value)[k % (#[] : Array Value).size]!)) = ((Array.range (len * sz)).map (fun k => z.cells[k % z.cells.size]!)) := by
      rw [h0]; simp [Array.range]
    erw [e0, ep, h2]
    simp [newRow]
  · rw [if_neg h0]
    simp only [zeroValue, typeInfo, hinf, hzz, Sem.run_bind, run_program, Result.andThen_ok, Sem.run_pure]
    erw [ep, h2]
    simp [newRow]
/-- 'append(s, x...)', both rows of our own, one of them with an own cell. -/
theorem op_appendH {t e sz by_ id xid nid n k q : Nat} {z : Value} {s x : Operand} {a0 : A} {xs ys : List A} {ds : List D} (ho : o.op = .call ⟨.builtin .append, #[s, x], #[t, t]⟩) (E : ElemOK P t e sz by_ z) (hs0 : opA st s = .own id) (hb : rowA (st.H.getD id .unborn) = some (e, sz, n, xs)) (hx : opA st x = .own xid)
    (hy : rowA (st.H.getD xid .unborn) = some (e, sz, k, ys)) (hz : (ds.map .d).set q a0 = xs ++ ys) (hbytes : (n + k) * by_ ≤ 140737488355328) (hnid : st.H.getD nid .unborn = .unborn) (hne : id ≠ nid) :
    OpRun P o st (locsOf [s, x] ++ [.blk id, .blk xid, .blk nid]) (.own nid) [(id, .gone), (nid, .rows e sz (n + k) ds q a0)] := by
  refine .value fun st' hag cx m S a w hs => ?_
  have hnid' : st'.H.getD nid .unborn = .unborn := (blk1 (by simp) hag).trans hnid
  have hb' : st'.H.getD id .unborn = st.H.getD id .unborn := blk1 (by simp) hag
  have hxb' : st'.H.getD xid .unborn = st.H.getD xid .unborn := blk1 (by simp) hag
  have hrs := op_rep hs0 (R := locsOf [s, x] ++ [.blk id, .blk xid, .blk nid]) (fun l h => by simp [locsOf, h]) hag hs
  have hrx := op_rep hx (R := locsOf [s, x] ++ [.blk id, .blk xid, .blk nid]) (fun l h => by simp [locsOf, h]) hag hs
  obtain ⟨v, h5, ⟨cells, h6, h7, h8⟩, h9⟩ := rowA_ok hb (by rw [← hb']; exact hs.hold.ok id)
  obtain ⟨v2, g5, g5', g9⟩ := rowA_ok hy (by rw [← hxb']; exact hs.hold.ok xid)
  obtain ⟨p, cap, hv, h1, h2, h3, h4⟩ := rows_slice g5'
  obtain ⟨us, g6, g7, g8⟩ := g5'
  simp only [Rep, h5] at hrs
  obtain ⟨hrs, _⟩ := hrs
  simp only [Rep, g5] at hrx
  obtain ⟨hrx, _⟩ := hrx
  have k3 : ∀ qa, p = some qa → ∀ j u, us[j]? = some u → w.cell? (qa.add j) = some u := fun qa hq j u hu => by
    obtain ⟨g, rfl, hg⟩ := h4 qa hq
    exact g6.cells hg j u hu
  obtain ⟨v', w', hrun, j1, j2, j3⟩ := run_append2 E o.type h6 (x := a.eval x) (p := p) (k := k) (c := cap) (by rw [hrx, hv]) h3 g6.1 k3 g8 hbytes
  have hold := hold_grow (b := .rows e sz (n + k) ds q a0) hs.hold h5 h9 hnid' hne j2 (ownsRow_lt j1) j3 fun hK hLe => by
    refine ⟨v', by simp only [updM, if_true], ⟨cells ++ us, j1, ?_, fun u hu => ?_⟩, fun g hg hS => ?_⟩
    · rw [hz]
      exact (Reps.mono hLe (fun _ h => h) hK _ _ h7).append (Reps.mono hLe (fun _ h => h) hK _ _ g7)
    · rcases List.mem_append.1 hu with hu | hu
      · exact h8 u hu
      · exact g8 u hu
    · rcases j3 g hg with h | h
      · exact h9 g h hS
      · have := (hs.hold.s g hS).2; omega
  refine ⟨v', w', _, S, ?_, hold.1, fun _ h => h, hold.2.1, hold.2.2, ?_⟩
  · simp [execOp, ho, resolve, invoke, builtin, hrs, hrun]
  · simp only [Rep, updM, if_true]
    refine ⟨trivial, ?_⟩
    obtain ⟨_, ⟨rfl, _⟩ | ⟨g, cap, cur, rfl, _⟩⟩ := j1 <;> rfl
end
/-! ### a row's cells, one of them own -/
section
variable {α : Type} {enc : α → List D} {sz : Nat}
theorem hole_get {ds : List D} {k : Nat} {a : A} (h : k < ds.length) : ((ds.map A.d).set k a)[k]? = some a := by
  rw [List.getElem?_set, if_pos rfl, if_pos (by simpa using h)]
theorem hole_lt (hl : ∀ a, (enc a).length = sz) {l : List α} {j k : Nat} (hj : j < l.length) (hk : k < sz) : j * sz + k < (flatD enc l).length := by
  rw [flatD_length hl]
  have := Nat.mul_le_mul_right sz (show j + 1 ≤ l.length by omega)
  rw [Nat.add_mul] at this
  omega
theorem hole_new (hl : ∀ a, (enc a).length = sz) (l : List α) (w : α) (k : Nat) (a : A) : ((flatD enc (l ++ [w])).map A.d).set (l.length * sz + k) a = (flatD enc l).map A.d ++ ((enc w).map A.d).set k a := by
  have e : ((flatD enc l).map A.d).length = l.length * sz := by rw [List.length_map, flatD_length hl]
  rw [flatD_append, List.map_append, List.set_append_right _ _ (by omega), e, Nat.add_sub_cancel_left]
  simp [flatD]
theorem hole_old (hl : ∀ a, (enc a).length = sz) {l : List α} (r : List α) {j k : Nat} (hj : j < l.length) (hk : k < sz) (a : A) : ((flatD enc (l ++ r)).map A.d).set (j * sz + k) a = ((flatD enc l).map A.d).set (j * sz + k) a ++ (flatD enc r).map A.d := by
  rw [flatD_append, List.map_append, List.set_append_left]
  rw [List.length_map]; exact hole_lt hl hj hk
theorem set_cell (hl : ∀ a, (enc a).length = sz) : ∀ {l : List α} {i k : Nat} {x y : α} {d : D}, l[i]? = some x → k < sz → (enc x).set k d = enc y → (flatD enc l).set (i * sz + k) d = flatD enc (l.set i y)
  | [], i, k, x, y, d, h, _, _ => by simp at h
  | a :: l, 0, k, x, y, d, h, hk, he => by
    simp only [List.getElem?_cons_zero, Option.some.injEq] at h
    subst h
    rw [Nat.zero_mul, Nat.zero_add, flatD_cons, List.set_append_left _ _ (by rw [hl]; exact hk), he, List.set_cons_zero, flatD_cons]
  | a :: l, i + 1, k, x, y, d, h, hk, he => by
    have := set_cell hl (l := l) (by simpa using h) hk he
    rw [flatD_cons, List.set_append_right _ _ (by rw [hl, Nat.add_mul]; omega), hl, show (i + 1) * sz + k - sz = i * sz + k by rw [Nat.add_mul]; omega, this, List.set_cons_succ, flatD_cons]
end
theorem app_bytes1 {n by_ : Nat} (h : n + 1 ≤ 1000000000) (hb : by_ ≤ 140000) : (n + 1) * by_ ≤ 140737488355328 := by
  have := Nat.mul_le_mul h hb
  omega
end Go.Proofs.Ytelhmhmgaaebpaa.K

namespace Go.Proofs.Ytelhmhmgaaebpaa.B
open Go.RowKit
attribute [local go_sem] Oper.semAt_some
abbrev fnDel : Nat := 31
theorem putC_take0 {a b : List Value} {o : Nat} (h : o ≤ a.length) : (K.putC a o b).take o = a.take o := by
  unfold K.putC
  rw [List.append_assoc, List.take_append_of_le_length (by simp; omega), List.take_take, Nat.min_self]
theorem putC_take1 {a b : List Value} {o : Nat} (h : o ≤ a.length) : (K.putC a o b).take (o + b.length) = a.take o ++ b := by
  unfold K.putC
  exact List.take_left' (by simp; omega)
theorem setCells_row {w : World} {g o : Nat} {cur : Array Value} {t : TypeId} {vs : List Value} (h : K.RowAt w g cur t) (hl : o + vs.length ≤ cur.size) (h1 : ∀ v ∈ vs, v.oneCell' = true) : w.setCells g o vs = w.setRow g (K.putC cur.toList o vs).toArray := by
  have e1 := run_storeCells_cells (P := Try.prog) g o vs 0 w (fun j hj => by rw [Nat.add_zero, h.cell]; simp [show o + j < cur.size by omega]) (fun j hj => by rw [Nat.add_zero]; exact h.frozen (by omega)) h1
  have e2 := K.run_storeCells_row Try.prog g o t vs 0 cur w h (by omega) h1
  rw [e1] at e2
  simp only [Nat.add_zero, Result.ok.injEq, true_and] at e2
  exact e2
theorem row_set {w : World} {g o : Nat} {cur : Array Value} {t : TypeId} {vs : List Value} (h : K.RowAt w g cur t) (hl : o + vs.length ≤ cur.size) : K.RowAt (w.setRow g (K.putC cur.toList o vs).toArray) g (K.putC cur.toList o vs).toArray t :=
  h.put (by simp only [List.size_toArray]; rw [K.putC_length (by simpa using hl)]; simp) fun fz hb => setRow_heap w g cur _ t fz hb
theorem run_clearW {w : World} {g a k cp : Nat} {cur : Array Value} {z : Value} {by_ : Nat} (E : K.ElemOK Try.prog 33 42 3 by_ z) (h1 : ∀ v ∈ z.cells.toList, v.oneCell' = true) (h : K.RowAt w g cur 42) (hl : a * 3 + (k + 1) * 3 ≤ cur.size) (ty : TypeId) :
    (Builtin.clear_ #[33] ty #[.slice (some ⟨g, a * 3, none⟩) (k + 1) cp]).run Try.prog w = .ok (.tuple #[]) (w.setRow g (K.putC cur.toList (a * 3) (List.replicate (k + 1) z.cells.toList).flatten).toArray) := by
  obtain ⟨i, hi, hz, h4, h5'⟩ := E.parts
  have hz1 := E.zs
  have hmem : ∀ v ∈ (List.replicate (k + 1) z.cells.toList).flatten, v.oneCell' = true := fun v hv => by
    obtain ⟨l, hl, hv⟩ := List.mem_flatten.1 hv
    rw [(List.mem_replicate.1 hl).2] at hv
    exact h1 v hv
  have hul : (List.replicate (k + 1) z.cells.toList).flatten.length = (k + 1) * 3 := by rw [List.length_flatten, List.map_replicate, List.sum_replicate_nat, Array.length_toList, hz1]
  have hst := K.run_storeCells_row Try.prog g (a * 3) _ (List.replicate (k + 1) z.cells.toList).flatten 0 cur w h (by omega) hmem
  simp only [Nat.add_zero] at hst
  have hflat : (Builtin.zeroCells z.cells (k + 1)).toList = (List.replicate (k + 1) z.cells.toList).flatten := K.made_flat z.cells (k + 1) (by rw [hz1]; exact E.pos)
  simp [Builtin.clear_, run_underlying E.slice, zeroValue, typeInfo, hi, hz, hflat, hst, K.putC]
set_option maxRecDepth 1000000 in
set_option maxHeartbeats 4000000 in
theorem raw_delete {z : Value} {by_ : Nat} (E : K.ElemOK Try.prog 33 42 3 by_ z) (hz1 : ∀ v ∈ z.cells.toList, v.oneCell' = true) (w : World) (g cap n i : Nat) (cur : Array Value) (hr : K.RowAt w g cur 42) (hi : i < n) (hn : n ≤ cap) (hm : cap ≤ maxLen) (hs : cur.size = cap * 3) (h1 : ∀ v ∈ cur.toList.take (n * 3), v.oneCell' = true) :
    Calls Try.prog fnDel #[.slice (some ⟨g, 0, none⟩) n cap, .int .i64 (i : Int), .int .i64 ((i : Int) + 1)] w fun e w' => e = .returned (.slice (some ⟨g, 0, none⟩) (n - 1) cap) ∧ ∃ new : List Value, new.length = cur.size ∧ new.take ((n - 1) * 3) = cur.toList.take (i * 3) ++ (cur.toList.drop ((i + 1) * 3)).take ((n - (i + 1)) * 3) ∧ w' = w.drew.setRow g new.toArray := by
  have hm' : cap ≤ 9223372036854775807 := hm
  obtain ⟨i0, hi0, hz0, hsz0, _⟩ := E.parts
  obtain ⟨news, hnews⟩ : ∃ news, news = (cur.toList.drop ((i + 1) * 3)).take ((n - (i + 1)) * 3) := ⟨_, rfl⟩
  have hcur : cur.toList.length = cap * 3 := by simpa using hs
  have hle : n * 3 ≤ cap * 3 := Nat.mul_le_mul_right 3 hn
  have hlen : news.length = (n - (i + 1)) * 3 := by rw [hnews, List.length_take, List.length_drop, hcur, Nat.min_eq_left (by omega)]
  have hget : ∀ t u, news[t]? = some u → cur[(i + 1) * 3 + t]? = some u ∧ t < (n - (i + 1)) * 3 := fun t u hu => by
    have ht : t < (n - (i + 1)) * 3 := by have := (List.getElem?_eq_some_iff.1 hu).1; omega
    rw [hnews, List.getElem?_take, if_pos ht, List.getElem?_drop, Array.getElem?_toList] at hu
    exact ⟨hu, ht⟩
  have hrd : K.RowAt w.drew g cur 42 := hr
  obtain ⟨A, hA, hsrc⟩ : ∃ A : Addr, (if cap = i + 1 then some (⟨g, 0, none⟩ : Addr) else some ⟨g, (i + 1) * 3, none⟩) = some A ∧ Hid (∀ t u, news[t]? = some u → w.drew.cell? (A.add t) = some u) := by
    by_cases h : cap = i + 1
    · refine ⟨⟨g, 0, none⟩, by simp [h], fun t u hu => ?_⟩
      have := (hget t u hu).2
      omega
    · refine ⟨⟨g, (i + 1) * 3, none⟩, by simp [h], fun t u hu => ?_⟩
      rw [K.addr_add, hrd.cell]
      exact (hget t u hu).1
  have s1 : Hid (news.length = (n - (i + 1)) * 3) := hlen
  have s2 : Hid (∀ u ∈ news, u.oneCell' = true) := by
    intro u hu
    obtain ⟨t, ht⟩ := List.mem_iff_getElem?.1 hu
    obtain ⟨h2, h3⟩ := hget t u ht
    exact h1 u (List.mem_of_getElem? (i := (i + 1) * 3 + t) (by rw [List.getElem?_take, if_pos (by omega), Array.getElem?_toList]; exact h2))
  have s3 : Hid (∀ t, t < news.length → (w.drew.cell? ⟨g, 0 + i * 3 + t, none⟩).isSome = true ∧ w.drew.frozen? ⟨g, 0 + i * 3 + t, none⟩ = false) := by
    intro t ht
    rw [hlen] at ht
    exact ⟨by rw [hrd.cell]; simp; omega, hrd.frozen (by omega)⟩
  obtain ⟨W1, hW1⟩ : ∃ W1, W1 = w.drew.setCells g (0 + i * 3) news := ⟨_, rfl⟩
  have hW1' : W1 = w.drew.setRow g (K.putC cur.toList (i * 3) news).toArray := by
    rw [hW1, Nat.zero_add]
    exact setCells_row hrd (by omega) s2
  have hR1 : K.RowAt W1 g (K.putC cur.toList (i * 3) news).toArray 42 := by rw [hW1']; exact row_set hrd (by omega)
  have hpl : (K.putC cur.toList (i * 3) news).length = cap * 3 := by rw [K.putC_length (by omega)]; exact hcur
  obtain ⟨W2, hW2⟩ : ∃ W2, W2 = W1.setRow g (K.putC (K.putC cur.toList (i * 3) news) ((n - 1) * 3) (List.replicate (0 + 1) z.cells.toList).flatten).toArray := ⟨_, rfl⟩
  have hcl : ∀ ty c, (Builtin.clear_ #[33] ty #[.slice (some ⟨g, (i + (n - (i + 1))) * 3, none⟩) (n - (i + (n - (i + 1)))) c]).run Try.prog W1 = .ok (.tuple #[]) W2 := fun ty c => by
    rw [hW2, show i + (n - (i + 1)) = n - 1 by omega, show n - (n - 1) = 0 + 1 by omega]
    exact run_clearW E hz1 hR1 (by simp only [List.size_toArray]; rw [hpl]; omega) ty
  have X : Aside (W2 = w.drew.setRow g (K.putC (K.putC cur.toList (i * 3) news) ((n - 1) * 3) (List.replicate (0 + 1) z.cells.toList).flatten).toArray) := by
    show W2 = _
    rw [hW2, hW1', setRow_setRow]
  have Y : Aside (news = (cur.toList.drop ((i + 1) * 3)).take ((n - (i + 1)) * 3) ∧ cur.toList.length = cap * 3 ∧ (K.putC cur.toList (i * 3) news).length = cap * 3 ∧ z.cells.size = 3) := ⟨hnews, hcur, hpl, E.zs⟩
  have hW : Hid (W1 = w.drew.setCells g (0 + i * 3) news) := hW1
  have t33 := E.slice
  have hic : i ≤ cap := by omega
  have hjc : i + 1 ≤ cap := by omega
  have hbi : (0 : Int) ≤ (i : Int) + 1 ∧ (i : Int) + 1 ≤ (n : Int) := by omega
  clear hW1 hW1' hR1 hW2 hget hnews hlen hrd hpl hcur E hz1 hz0
  go_enter Try.func31, Try.ntmps31
  go_wp2_with fail
  go_region_law (refine step_append_room rfl (.tmp 22) (.tmp 25) 33 rfl 42 i0 3 t33 hi0 hsz0 g 0 i cap (by simp [Act.eval, Act.put]) A (n - (i + 1)) (cap - (i + 1)) news (by simp [Act.eval, Act.put]) s1.out hsrc.out s2.out (by omega) s3.out ?_; rw [← hW.out])
  have hme : ¬ cap = i + (n - (i + 1)) := by omega
  have hmn : i + (n - (i + 1)) ≤ n := by omega
  go_wp2
  (first | go_ret | go_ret2 | go_end0)
  obtain ⟨y1, y2, y3, y4⟩ := Y.out
  have hl1 : (List.replicate (0 + 1) z.cells.toList).flatten.length = 3 := by simp [y4]
  have hnl : news.length = (n - (i + 1)) * 3 := s1.out
  refine ⟨by rw [show i + (n - (i + 1)) = n - 1 by omega]; rfl, K.putC (K.putC cur.toList (i * 3) news) ((n - 1) * 3) (List.replicate (0 + 1) z.cells.toList).flatten, ?_, ?_, X.out⟩
  · rw [K.putC_length (by omega), y3, hs]
  · rw [← y1]
    rw [putC_take0 (by omega), show (n - 1) * 3 = i * 3 + news.length by omega, putC_take1 (by omega)]
end Go.Proofs.Ytelhmhmgaaebpaa.B

namespace Go.Proofs.Ytelhmhmgaaebpaa.K
open Go.RowKit Go.Lib
theorem call_delete {z : Value} {by_ : Nat} (E : ElemOK Try.prog 33 42 3 by_ z) (hz1 : ∀ v ∈ z.cells.toList, v.oneCell' = true) {α : Type} {enc : α → List D} (hl : ∀ a, (enc a).length = 3) (l : List α) (i : Nat) (hi : i < l.length) :
    GCall Try.prog B.fnDel [.own 0, .d (.lit (.int .i64 (i : Int))), .d (.lit (.int .i64 ((i : Int) + 1)))] [.arr 42 3 l.length (flatD enc l)] (.own 1) [.gone, .arr 42 3 (l.eraseIdx i).length (flatD enc (l.eraseIdx i))] := by
  intro m S w vs hg hz hH hR
  simp only [Reps] at hR
  obtain ⟨v, r, rfl, h0, v1, r1, rfl, hv1, v2, r2, rfl, hv2, rfl⟩ := hR
  simp only [Rep] at hv1 hv2
  unfold RepD at hv1 hv2
  obtain ⟨rfl, _⟩ := hv1
  obtain ⟨rfl, _⟩ := hv2
  have hok := hH.ok 0
  simp only [List.getD_cons_zero] at hok
  obtain ⟨v', h1, ⟨cells, ⟨hlen, hrow⟩, hr, h1s⟩, hS⟩ := hok
  simp only [Rep, h1] at h0
  obtain ⟨rfl, _⟩ := h0
  have hxl : (flatD enc l).length = l.length * 3 := flatD_length hl l
  rcases hrow with ⟨rfl, hn⟩ | ⟨g, cap, cur, rfl, _, h2, h3, h4, h5, h6⟩
  · omega
  have hcur : cur.toList.length = cap * 3 := by simpa using h5
  have hle : l.length * 3 ≤ cap * 3 := Nat.mul_le_mul_right 3 h3
  refine (B.raw_delete E hz1 w g cap l.length i cur h2 hi h3 h4 h5 (by rw [h6]; exact h1s)).mono ?_
  rintro e' w' ⟨rfl, new, hnl, hnt, rfl⟩
  have hgr : w.grownBy (w.drew.setRow g new.toArray) (Pl.arr (.slice (some ⟨g, 0, none⟩) l.length cap)).blk := ⟨rfl, rfl, rfl, by
    have e : (w.drew.setRow g new.toArray).heap.size = w.drew.heap.size := by simp [World.setRow]
    rw [e]; exact Nat.le_refl _, fun k hk hne => setRow_other w.drew g k _ (fun e => hne (by rw [e]; rfl))⟩
  have hrd : RowAt w.drew g cur 42 := h2
  have hrn : RowAt (w.drew.setRow g new.toArray) g new.toArray 42 := hrd.put (by simp [hnl]) fun fz hb => setRow_heap w.drew g cur _ _ fz hb
  have e1 : cur.toList.take (i * 3) = cells.take (i * 3) := by rw [← h6, List.take_take, Nat.min_eq_left (by omega)]
  have e2 : (cur.toList.drop ((i + 1) * 3)).take ((l.length - (i + 1)) * 3) = cells.drop ((i + 1) * 3) := by
    rw [← h6, List.drop_take]
    congr 1
    omega
  rw [e1, e2] at hnt
  have hel : (l.eraseIdx i).length = l.length - 1 := by rw [List.length_eraseIdx, if_pos hi]
  have hxe : flatD enc (l.eraseIdx i) = (flatD enc l).take (i * 3) ++ (flatD enc l).drop ((i + 1) * 3) := by
    rw [flat_take hl, flat_dropL hl, ← flatD_append, List.eraseIdx_eq_take_drop_succ]
  have hcl : cells.length = l.length * 3 := hlen
  have hrep : RepsD S w (flatD enc (l.eraseIdx i)) (cells.take (i * 3) ++ cells.drop ((i + 1) * 3)) := by
    rw [hxe]
    refine ⟨by simp only [List.length_append, List.length_take, List.length_drop]; omega, fun j x u hx hu => ?_⟩
    rw [List.getElem?_append] at hx hu
    have l1 : ((flatD enc l).take (i * 3)).length = i * 3 := by rw [List.length_take]; omega
    have l2 : (cells.take (i * 3)).length = i * 3 := by rw [List.length_take]; omega
    rw [l1] at hx
    rw [l2] at hu
    by_cases hj : j < i * 3
    · rw [if_pos hj, List.getElem?_take, if_pos hj] at hx hu
      exact hr.2 j x u hx hu
    · rw [if_neg hj, List.getElem?_drop] at hx hu
      exact hr.2 _ x u hx hu
  have hold := hold_grow (nid := 1) (v' := .slice (some ⟨g, 0, none⟩) (l.length - 1) cap) (b := .arr 42 3 (l.eraseIdx i).length (flatD enc (l.eraseIdx i))) hH h1 hS rfl (by omega) hgr (fun k hk => by
      simp only [Value.ownBlock, Option.some.injEq] at hk
      subst hk; exact hrn.lt) (fun k hk => .inl hk) fun hK hLe => by
    refine ⟨.slice (some ⟨g, 0, none⟩) (l.length - 1) cap, by simp only [updM, if_true], ⟨cells.take (i * 3) ++ cells.drop ((i + 1) * 3), ⟨?_, .inr ⟨g, cap, _, by rw [hel], Nat.zero_le _, hrn, by omega, h4, by simp [hnl, h5], ?_⟩⟩, hrep.mono (fun _ h => h) hK, fun u hu => ?_⟩, fun k hk => hS k hk⟩
    · rw [hel]; simp only [List.length_append, List.length_take, List.length_drop]; omega
    · rw [hel]; exact hnt
    · rcases List.mem_append.1 hu with hu | hu
      · exact h1s u (List.mem_of_mem_take hu)
      · exact h1s u (List.mem_of_mem_drop hu)
  exact ⟨_, _, S, rfl, hold.2.2, by simp only [Rep, updM, if_true]; exact ⟨trivial, rfl⟩⟩
end Go.Proofs.Ytelhmhmgaaebpaa.K

namespace Go.Proofs.Ytelhmhmgaaebpaa.K
open Go.RowKit Go.Lib

structure GValue where
  Kind : UInt8
  N : Int
  Bits : Int
  Text : (List UInt8)
  deriving DecidableEq, Inhabited
def enc_GValue (x : GValue) : List D := [(byteD x.Kind), (.lit (.int .i64 x.N)), (.lit (.int .u64 x.Bits)), (.lit (.string (toS x.Text)))]
theorem enc_GValue_len (x : GValue) : (enc_GValue x).length = 4 := rfl
structure GEvent where
  Time : Int
  Source : Int
  Seq : Int
  Type_ : (List UInt8)
  Vals : (List GValue)
  deriving DecidableEq, Inhabited
def enc_GEvent (x : GEvent) : List D := [(.lit (.int .i64 x.Time)), (.lit (.int .i64 x.Source)), (.lit (.int .i64 x.Seq)), (.lit (.string (toS x.Type_))), (.sl (List.length x.Vals) (flatD enc_GValue x.Vals))]
theorem enc_GEvent_len (x : GEvent) : (enc_GEvent x).length = 5 := rfl
structure GPair where
  Var : (List UInt8)
  E : GEvent
  deriving DecidableEq, Inhabited
def enc_GPair (x : GPair) : List D := [(.lit (.string (toS x.Var))), (.lit (.int .i64 x.E.Time)), (.lit (.int .i64 x.E.Source)), (.lit (.int .i64 x.E.Seq)), (.lit (.string (toS x.E.Type_))), (.sl (List.length x.E.Vals) (flatD enc_GValue x.E.Vals))]
theorem enc_GPair_len (x : GPair) : (enc_GPair x).length = 6 := rfl
structure GWait where
  Bound : (List GPair)
  Sets : (List Int)
  End : Int
  deriving DecidableEq, Inhabited
def enc_GWait (x : GWait) : List D := [(.sl (List.length x.Bound) (flatD enc_GPair x.Bound)), (.sl (List.length x.Sets) (flatD (encI .u32) x.Sets)), (.lit (.int .i64 x.End))]
theorem enc_GWait_len (x : GWait) : (enc_GWait x).length = 3 := rfl
structure GTrail where
  Cap : Int
  L : (List GWait)
  deriving DecidableEq, Inhabited
structure GID where
  Time : Int
  Source : Int
  Seq : Int
  deriving DecidableEq, Inhabited
structure GArr2_Int_ where
  a0 : Int
  a1 : Int
  deriving DecidableEq, Inhabited
def enc_GArr2_Int_ (x : GArr2_Int_) : List D := [(.lit (.int .u32 x.a0)), (.lit (.int .u32 x.a1))]
theorem enc_GArr2_Int__len (x : GArr2_Int_) : (enc_GArr2_Int_ x).length = 2 := rfl
structure GArr2_Int where
  a0 : Int
  a1 : Int
  deriving DecidableEq, Inhabited
def enc_GArr2_Int (x : GArr2_Int) : List D := [(.lit (.int .i64 x.a0)), (.lit (.int .i64 x.a1))]
theorem elemOK_22 : ElemOK Try.prog 22 25 1 4 (.int .u32 0) := ⟨by kernel_rfl, by kernel_rfl, by kernel_rfl, by decide, by decide⟩
theorem elemOK_33 : ElemOK Try.prog 33 42 3 56 (.agg #[(.slice none 0 0), (.slice none 0 0), (.int .i64 0)]) := ⟨by kernel_rfl, by kernel_rfl, by kernel_rfl, by decide, by decide⟩
theorem elemOK_40 : ElemOK Try.prog 40 71 6 80 (.agg #[(.string ⟨#[]⟩), (.int .i64 0), (.int .i64 0), (.int .i64 0), (.string ⟨#[]⟩), (.slice none 0 0)]) := ⟨by kernel_rfl, by kernel_rfl, by kernel_rfl, by decide, by decide⟩
theorem elemOK_67 : ElemOK Try.prog 67 129 4 40 (.agg #[(.int .u8 0), (.int .i64 0), (.int .u64 0), (.string ⟨#[]⟩)]) := ⟨by kernel_rfl, by kernel_rfl, by kernel_rfl, by decide, by decide⟩
end Go.Proofs.Ytelhmhmgaaebpaa.K
