/- What one may forget; parts of slices, of structs, of texts. -/
import Derived.Test.YtcpageegmpjkiaaZReg
import Derived.IntWalk
import Derived.Laws.AppendOwnNone
import Derived.Laws.IdiomStrings
import Derived.Laws.StructEq
import Derived.ProofKit
import Derived.OpenShut
import Derived.ShutString
import Derived.ChangeOld
import Derived.Carry
import Derived.DataElems
import Derived.Test.YtcpageegmpjkiaaProg
import Derived.ScopeJumps
import Derived.ChangeKeysEq
import Derived.Lib.AppendZeros
import Derived.MapKept
import Derived.ChangeMaps4
import Derived.Test.YtcpageegmpjkiaaChecked
import Derived.Maps.RangeWalk
import Derived.WalkKit
set_option linter.unusedVariables false
set_option linter.unusedSimpArgs false
namespace Go.Proofs.Ytcpageegmpjkiaa.K
open Go.RowKit Go.Lib

/-! ### forgetting, other names -/
def wkL (ids : List Nat) : List A → List A → Prop
  | [], [] => True
  | x :: xs, y :: ys => (x = .top ∨ x.ren ids = some y) ∧ wkL ids xs ys
  | _, _ => False
def wkB (ids : List Nat) : Blk → Blk → Prop
  | .box xs, .box ys => wkL ids xs ys
  | b, b' => b.ren ids = some b'
theorem wkL_reps {ids : List Nat} {m : Mp} {S : Nat → Prop} {w : World} : ∀ {xs ys : List A} {vs : List Value}, wkL ids xs ys → Reps m S w ys vs → Reps (via ids m) S w xs vs
  | [], [], vs, _, h => by simpa only [Reps] using h
  | x :: xs, y :: ys, vs, hw, h => by
    simp only [Reps] at h ⊢
    obtain ⟨v, r, rfl, h1, h2⟩ := h
    refine ⟨v, r, rfl, ?_, wkL_reps hw.2 h2⟩
    rcases hw.1 with rfl | he
    · simp only [Rep]
    · exact (Rep.via x y v he).2 h1
  | [], _ :: _, _, hw, _ => hw.elim
  | _ :: _, [], _, hw, _ => hw.elim
theorem wkB_ok {ids : List Nat} {m : Mp} {S : Nat → Prop} {w : World} {j k : Nat} {b b' : Blk} (hk : ids[j]? = some k) (hw : wkB ids b b') (h : BlkOK m S w k b') : BlkOK (via ids m) S w j b := by
  have gen : b.ren ids = some b' → BlkOK (via ids m) S w j b := fun hr => (BlkOK.via hk hr).2 h
  cases b with
  | box xs =>
    cases b' with
    | box ys =>
      obtain ⟨b, cells, T, h1, h2, h3, h4, h5⟩ := h
      exact ⟨b, cells, T, by simp [K.via, hk, h1], h2, wkL_reps hw h3, h4, h5⟩
    | _ => exact gen hw
  | _ => exact gen hw
/-- The state st' says no more than st: its block j is the block ids[j] there. -/
theorem Weak.to {st st' : St} (ids : List Nat) (hk : st'.k = st.k) (hn : ids.Nodup) (hl : ids.length = st'.H.length) (hpre : st.k ≤ ids.length ∧ ids.take st.k = List.range st.k)
    (hH : ∀ (j i : Nat), ids[j]? = some i → wkB ids (st'.H.getD j .unborn) (st.H.getD i .unborn)) (he : wkL ids st'.env st.env) : Weak st st' := by
  intro cx m S a w hs
  have h := hs.hold
  refine ⟨via ids m, S, ⟨⟨h.os, h.tape, h.output, h.size, h.old, h.s0, h.s, fun id p b hp hb => ?_, fun id id' p p' b hne hp hp' hb => ?_, fun j => ?_, fun id p hp => ?_⟩, wkL_reps he hs.env, hs.df, by rw [hk]; exact hs.pre⟩⟩
  · obtain ⟨k, _, hk⟩ := via_some hp; exact h.pl k p b hk hb
  · obtain ⟨k, h1, hk⟩ := via_some hp
    obtain ⟨k', h1', hk'⟩ := via_some hp'
    refine h.apart k k' p p' b (fun he => hne ?_) hk hk' hb
    subst he
    exact (List.getElem?_inj (List.getElem?_eq_some_iff.1 h1).1 hn).1 (h1.trans h1'.symm)
  · rcases Nat.lt_or_ge j ids.length with hj | hj
    · have hkj : ids[j]? = some ids[j] := List.getElem?_eq_getElem hj
      exact wkB_ok hkj (hH j _ hkj) (h.ok _)
    · rw [getD_none (by rw [← hl]; exact hj)]
      simp only [BlkOK, K.via, List.getElem?_eq_none hj, Option.bind_none]
  · have hid : id < st.k := by
      rcases Nat.lt_or_ge id st.k with h1 | h1
      · exact h1
      · rw [hs.pre id h1] at hp; cases hp
    have hki : ids[id]? = some id := by
      have : (ids.take st.k)[id]? = some id := by rw [hpre.2, List.getElem?_range hid]
      rwa [List.getElem?_take, if_pos hid] at this
    simp only [K.via, hki, Option.bind_some]
    exact h.le id p hp
/-- A nil slice is an own row of none. -/
def wkN (nid : Nat) : List A → List A → Prop
  | [], [] => True
  | x :: xs, y :: ys => (x = y ∨ (x = .own nid ∧ y = .d .nil)) ∧ wkN nid xs ys
  | _, _ => False
theorem wkN_reps {nid : Nat} {m m' : Mp} {S : Nat → Prop} {w : World} (hm : Le m m') (hn : m' nid = some (.arr (.slice none 0 0))) : ∀ {xs ys : List A} {vs : List Value}, wkN nid xs ys → Reps m S w ys vs → Reps m' S w xs vs
  | [], [], vs, _, h => by simpa only [Reps] using h
  | x :: xs, y :: ys, vs, hw, h => by
    simp only [Reps] at h ⊢
    obtain ⟨v, r, rfl, h1, h2⟩ := h
    refine ⟨v, r, rfl, ?_, wkN_reps hm hn hw.2 h2⟩
    rcases hw.1 with rfl | ⟨rfl, rfl⟩
    · exact Rep.mono hm (fun _ h => h) (Keeps.refl S w) _ _ h1
    · simp only [Rep, RepD] at h1
      subst h1
      simp only [Rep, hn]
      exact ⟨trivial, rfl⟩
  | [], _ :: _, _, hw, _ => hw.elim
  | _ :: _, [], _, hw, _ => hw.elim
theorem Weak.own {st st' : St} (nid e sz : Nat) (hnid : st.H.getD nid .unborn = .unborn) (hk : st'.k = st.k) (he : wkN nid st'.env st.env) (hH : st'.H.getD nid .unborn = .arr e sz 0 [])
    (ho : ∀ j, j ≠ nid → st'.H.getD j .unborn = st.H.getD j .unborn ∨ ∃ xs ys, st'.H.getD j .unborn = .box xs ∧ st.H.getD j .unborn = .box ys ∧ wkN nid xs ys) : Weak st st' := by
  intro cx m S a w hs
  have h := hs.hold
  have hn : m nid = none := by have := h.ok nid; rw [hnid] at this; exact this
  have hLe : Le m (updM m nid (.arr (.slice none 0 0))) := fun k q hq => by
    by_cases e1 : k = nid
    · subst e1; rw [hn] at hq; cases hq
    · left; simp only [updM, e1, if_false]; exact hq
  have hnew : updM m nid (.arr (.slice none 0 0)) nid = some (.arr (.slice none 0 0)) := by simp only [updM, if_true]
  have hne : ∀ j, j ≠ nid → updM m nid (.arr (.slice none 0 0)) j = m j := fun j hj => by simp only [updM, hj, if_false]
  have blkNil : ∀ {id p b}, updM m nid (.arr (.slice none 0 0)) id = some p → p.blk = some b → m id = some p := fun {id p b} hp hb => by
    by_cases e1 : id = nid
    · subst e1; rw [hnew] at hp; cases hp; simp [Pl.blk, Value.ownBlock] at hb
    · rw [hne id e1] at hp; exact hp
  refine ⟨_, S, ⟨⟨h.os, h.tape, h.output, h.size, h.old, h.s0, h.s, fun id p b hp hb => h.pl id p b (blkNil hp hb) hb, fun id id' p p' b hd hp hp' hb hb' => h.apart id id' p p' b hd (blkNil hp hb) (blkNil hp' hb') hb hb', fun j => ?_, h.le.trans hLe⟩,
    wkN_reps hLe hnew he hs.env, hs.df, by rw [hk]; exact hs.pre⟩⟩
  by_cases hj : j = nid
  · subst hj
    rw [hH]
    exact ⟨_, hnew, ⟨[], OwnsR.nil w e sz, ⟨rfl, fun i x v hx => by simp at hx⟩, fun v hv => by cases hv⟩, fun g hg => by simp [Value.ownBlock] at hg⟩
  · rcases ho j hj with h1 | ⟨xs, ys, h1, h2, h3⟩
    · rw [h1]
      exact (h.ok j).mono (hne j hj) hLe (fun _ h => h) (Keeps.refl S w) fun p g _ _ => ⟨rfl, fun h => h⟩
    · have hok := h.ok j
      rw [h2] at hok
      obtain ⟨b, cells, T, k1, k2, k3, k4, k5⟩ := hok
      rw [h1]
      exact ⟨b, cells, T, by rw [hne j hj]; exact k1, k2, wkN_reps hLe hnew h3 k3, k4, k5⟩
def Blk.view (H : List Blk) (vids : List Nat) : Blk → Blk
  | .box xs => .box (A.nns (A.views H vids xs))
  | b => b
def frzL (H : List Blk) (vids : List Nat) : List Blk → Nat → List Blk
  | [], _ => []
  | b :: l, k => (match inB vids k with | true => b.frz | false => b.view H vids) :: frzL H vids l (k + 1)
theorem frzL_get {H : List Blk} {vids : List Nat} : ∀ (l : List Blk) (k j : Nat), (frzL H vids l k).getD j .unborn = if (k + j) ∈ vids then (l.getD j .unborn).frz else (l.getD j .unborn).view H vids
  | [], k, j => by simp only [frzL, List.getD_nil]; split <;> rfl
  | b :: l, k, 0 => by
    simp only [frzL, List.getD_cons_zero, Nat.add_zero]
    cases h : inB vids k with
    | true => rw [if_pos (inB_iff.1 h)]
    | false => rw [if_neg (fun hm => by rw [inB_iff.2 hm] at h; cases h)]
  | b :: l, k, j + 1 => by
    simp only [frzL, List.getD_cons_succ]
    rw [frzL_get l (k + 1) j, show k + 1 + j = k + (j + 1) by omega]
/-- Own blocks are frozen: what names them, says what they are. -/
theorem Weak.freeze {st : St} (vids : List Nat) : Weak st ⟨A.nns (A.views st.H vids st.env), frzL st.H vids st.H 0, st.k⟩ := by
  intro cx m S a w hs
  have hf := hs.hold.freeze (vids := vids) (H' := putB st.H (vids.map fun id => (id, (st.H.getD id .unborn).frz))) fun k => by
    rw [getD_putB, lastB_frz]
    by_cases hk : k ∈ vids <;> simp [hk]
  have hle := fzm_le hs.hold vids
  refine ⟨fzm m st.H vids, SV' m S vids, ⟨⟨hf.os, hf.tape, hf.output, hf.size, hf.old, hf.s0, hf.s, hf.pl, hf.apart, fun j => ?_, hf.le⟩, Reps.mono hle (fun _ h => h) (Keeps.refl _ w) _ _ (Reps.nn _ _ (Reps.view hs.hold _ _ hs.env)), hs.df, hs.pre⟩⟩
  have hj := hf.ok j
  rw [getD_putB, lastB_frz] at hj
  simp only [] at hj ⊢
  rw [frzL_get, Nat.zero_add]
  by_cases hk : j ∈ vids
  · rw [if_pos hk] at hj ⊢; exact hj
  · rw [if_neg hk] at hj ⊢
    simp only [Option.getD_none] at hj
    cases hb : st.H.getD j .unborn with
    | box xs =>
      rw [hb] at hj
      obtain ⟨b, cells, T, k1, k2, k3, k4, k5⟩ := hj
      have hok := hs.hold.ok j
      rw [hb] at hok
      obtain ⟨b0, cells0, T0, j1, j2, j3, _⟩ := hok
      have hi : inB vids j = false := by
        cases hi : inB vids j with
        | false => rfl
        | true => exact absurd (inB_iff.1 hi) hk
      have e1 : m j = some (.box b) := by simpa only [fzm, hi] using k1
      rw [j1] at e1; cases e1
      rw [j2] at k2; cases k2
      exact ⟨b, cells, T, k1, j2, Reps.mono hle (fun _ h => h) (Keeps.refl _ w) _ _ (Reps.nn _ _ (Reps.view hs.hold _ _ j3)), k4, k5⟩
    | unborn => rw [hb] at hj; exact hj
    | gone => rw [hb] at hj; exact hj
    | arr e sz n xs => rw [hb] at hj; exact hj
    | fro e sz n xs => rw [hb] at hj; exact hj
    | rows e sz n xs => rw [hb] at hj; exact hj
    | mp ks cs => rw [hb] at hj; exact hj

/-! ### parts -/
def boundA (st : St) (dflt : Nat) : Option Operand → Nat → Prop
  | none, l => l = dflt
  | some y, l => ∃ k : IntKind, ∃ v : Int, opA st y = .d (.lit (.int k v)) ∧ v = l
def boundV (a : Act) (dflt : Nat) : Option Operand → Nat → Prop
  | none, l => l = dflt
  | some y, l => ∃ k, a.eval y = .int k l
section
variable {P : Program} {o : Oper} {st : St}
/-- A part of a slice. -/
def partA (l h sz : Nat) (ds : List D) (off : Nat) : A → A
  | .own id => .sub id (l * sz) (h - l)
  | .sub id o _ => .sub id (o + l * sz) (h - l)
  | _ => .d (.sl (h - l) ((ds.drop (off + l * sz)).take ((h - l) * sz)))
theorem run_slice {t e sz : Nat} {x : Operand} {lo hi : Option Operand} {a : Act} {w : World} {p : Option Addr} {n cap l h : Nat} (ho : o.op = .slice t x lo hi none) (he : sliceElem P t = some (e, sz)) (hx : a.eval x = .slice p n cap)
    (hlo : boundV a 0 lo l) (hhi : boundV a n hi h) (h1 : l ≤ h) (h2 : h ≤ cap) :
    (execOp a.eval o).run P w = .ok (.value (.slice (if cap = l then p else p.map (·.add (l * sz))) (h - l) (cap - l))) w := by
  obtain ⟨hu, inf, hinf, hsz⟩ := sliceElem_spec he
  cases lo with
  | none =>
    simp only [boundA, boundV] at hlo; subst hlo
    cases hi with
    | none => simp only [boundA, boundV] at hhi; subst hhi; simp [execOp, ho, Instr.sliceAt, Instr.slice, run_underlying hu, hx, Instr.sliceBounds, sizeOf, typeInfo, hinf, hsz]
    | some y =>
      obtain ⟨k, h3⟩ := hhi
      simp [execOp, ho, Instr.sliceAt, Instr.slice, run_underlying hu, hx, h3, Instr.sliceBounds, Instr.sliceBound, asIntOf, h2, sizeOf, typeInfo, hinf, hsz]
  | some z =>
    obtain ⟨k, h3⟩ := hlo
    cases hi with
    | none => simp only [boundA, boundV] at hhi; subst hhi; simp [execOp, ho, Instr.sliceAt, Instr.slice, run_underlying hu, hx, h3, Instr.sliceBounds, Instr.sliceBound, asIntOf, h1, sizeOf, typeInfo, hinf, hsz]
    | some y =>
      obtain ⟨k, h4⟩ := hhi
      simp [execOp, ho, Instr.sliceAt, Instr.slice, run_underlying hu, hx, h3, h4, Instr.sliceBounds, Instr.sliceBound, asIntOf, h1, h2, sizeOf, typeInfo, hinf, hsz]
theorem op_slice {t e sz : Nat} {x : Operand} {lo hi : Option Operand} {y : A} {ds : List D} {off n l h : Nat} (ho : o.op = .slice t x lo hi none) (he : sliceElem P t = some (e, sz)) (hx : opA st x = y) (hy : sliceAt st.H y = some (ds, off, n))
    (hlo : boundA st 0 lo l) (hhi : boundA st n hi h) (h1 : l ≤ h) (h2 : h ≤ n) (h3 : l < n ∨ l = 0)
    (hown : match y with | .own id => l * sz < ds.length | .sub _ _ _ => True | .d _ => off + h * sz ≤ ds.length | _ => False) :
    OpRun P o st (locsOf (x :: (lo.toList ++ hi.toList)) ++ locA y) (partA l h sz ds off y) [] := by
  refine .pure fun st' hag cx m S a w hs => ?_
  have hr := op_rep hx (R := locsOf (x :: (lo.toList ++ hi.toList)) ++ locA y) (fun l h => by simp [locsOf, h]) hag hs
  have hy0 := hy
  rw [← sliceA_agree fun l h => hag l (by simp [h])] at hy
  obtain ⟨p, cap, hv, k1, k2, k3, k4⟩ := sliceAt_spec hs.hold hy hr
  have hlo' : boundV a 0 lo l := by
    cases lo with
    | none => exact hlo
    | some z => obtain ⟨k, v, q1, rfl⟩ := hlo; exact ⟨k, op_lit q1 (R := locsOf (x :: ((some z).toList ++ hi.toList)) ++ locA y) (fun l h => by simp [locsOf, h]) hag hs⟩
  have hhi' : boundV a n hi h := by
    cases hi with
    | none => exact hhi
    | some z =>
      obtain ⟨k, v, q1, rfl⟩ := hhi
      refine ⟨k, op_lit q1 (R := locsOf (x :: (lo.toList ++ (some z).toList)) ++ locA y) (fun l h => ?_) hag hs⟩
      have : l ∈ locsOf (x :: (lo.toList ++ [z])) := locs_mem (by simp) l h
      simp only [Option.toList_some, List.mem_append]; exact .inl this
  refine ⟨_, run_slice ho he hv hlo' hhi' h1 (by omega), ?_⟩
  have hadd : ∀ g o, p = some ⟨g, o, none⟩ → (if cap = l then p else p.map (·.add (l * sz))) = some ⟨g, o + l * sz, none⟩ := fun g o hp => by
    subst hp
    split
    · rename_i hc
      have : l = 0 := by omega
      subst this; simp
    · simp [addr_add]
  cases y with
  | own id =>
    simp only [Rep, partA] at hr ⊢
    have hok := hs.hold.ok id
    simp only [sliceAt] at hy
    have fin : ∀ {e sz' n' ds'} {v' : Value}, m id = some (.arr v') → RowOK S w e sz' n' ds' v' → ds'.length = ds.length → (match m id with
        | none => False
        | some .gone => (Value.slice (if cap = l then p else p.map (·.add (l * sz))) (h - l) (cap - l)).oneCell' = true
        | some (.box _) => False
        | some (.arr v) => ∃ g cap', v.ownBlock = some g ∧ Value.slice (if cap = l then p else p.map (·.add (l * sz))) (h - l) (cap - l) = .slice (some ⟨g, l * sz, none⟩) (h - l) cap' ∧ h - l ≤ cap' ∧ cap' ≤ maxLen
        | some (.mp _) => False) := fun {e sz' n' ds'} {v'} h5 h6 hdl => by
      rw [h5] at hr ⊢
      simp only at hr ⊢
      obtain ⟨a', cap', r1, r2, r3, r4, r5, r6⟩ := row_slice h6
      rw [← hr.1, hv] at r1
      simp only [Value.slice.injEq] at r1
      obtain ⟨r7, r8, r9⟩ := r1
      cases p with
      | none =>
        exfalso
        obtain ⟨h7, _⟩ := k3 rfl
        obtain ⟨cells, ⟨hl, q⟩, hrr, _⟩ := h6
        rcases q with ⟨_, q⟩ | ⟨g, c, cur, q, _⟩
        · rw [q, Nat.zero_mul] at hl
          have := hrr.1; omega
        · rw [← hr.1, hv] at q; cases q
      | some q =>
        obtain ⟨g, hq, hg⟩ := r6 q r7.symm
        subst hq
        exact ⟨g, cap - l, hg, by rw [hadd g 0 rfl, Nat.zero_add], by omega, by omega⟩
    split at hy
    · rename_i e' sz' n' ds' hb
      cases hy
      rw [hb] at hok
      obtain ⟨v', h5, h6, _⟩ := hok
      exact fin h5 h6 rfl
    · rename_i e' sz' n' ds' hb
      cases hy
      rw [hb] at hok
      obtain ⟨v', h5, h6, _⟩ := hok
      exact fin h5 h6 rfl
    · cases hy
  | sub id o n' =>
    simp only [Rep, partA] at hr ⊢
    cases hm : m id with
    | none => rw [hm] at hr; exact hr.elim
    | some q =>
      rw [hm] at hr
      cases q with
      | gone => rfl
      | box b => exact hr.elim
      | arr v' =>
        obtain ⟨g, cap', hg, hev, _⟩ := hr
        rw [hv] at hev
        simp only [Value.slice.injEq] at hev
        exact ⟨g, cap - l, hg, by rw [hadd g o hev.1], by omega, by omega⟩
      | mp b => exact hr.elim
  | d x =>
    simp only [Rep, partA]
    unfold RepD
    refine ⟨_, _, rfl, by omega, by omega, fun hp => ?_, ?_⟩
    · cases p with
      | none => obtain ⟨h4, h5⟩ := k3 rfl; omega
      | some q => split at hp <;> cases hp
    · have hd : ∀ (q : Addr), p = some q → RepDs S w ds (some q) 0 → RepDs S w ((ds.drop (off + l * sz)).take ((h - l) * sz)) (if cap = l then p else p.map (·.add (l * sz))) 0 := fun q hq hrd => by
        cases x with
        | sl n' cs =>
          simp only [sliceAt] at hy0; cases hy0
          rw [Nat.zero_add]
          subst hq
          split
          · have : l = 0 := by omega
            subst this
            simpa using hrd.take (h * sz)
          · exact (hrd.drop _).take _
        | nil => simp only [sliceAt] at hy0; cases hy0; simp only [List.drop_nil, List.take_nil, RepDs]
        | lit v => cases hy0
        | ref cs => cases hy0
        | slc n cs => cases hy0
        | mp nl ks cs => cases hy0
      cases x with
      | sl n' cs =>
        simp only [sliceAt] at hy0; cases hy0
        simp only [Rep, RepD] at hr
        obtain ⟨a', cap', q1, _, _, _, q2⟩ := hr
        rw [hv] at q1
        simp only [Value.slice.injEq] at q1
        cases p with
        | some q => exact hd q rfl (by rw [← q1.1] at q2; exact q2)
        | none =>
          obtain ⟨h4, _⟩ := k3 rfl
          have : (h - l) * sz = 0 := by rw [show h - l = 0 by omega, Nat.zero_mul]
          rw [this]; simp only [List.take_zero, RepDs]
      | nil => simp only [sliceAt] at hy0; cases hy0; simp only [List.drop_nil, List.take_nil, RepDs]
      | lit v => cases hy0
      | ref cs => cases hy0
      | slc n cs => cases hy0
      | mp nl ks cs => cases hy0
  | _ => exact hown.elim
end
end Go.Proofs.Ytcpageegmpjkiaa.K

namespace Go.Proofs.Ytcpageegmpjkiaa.K
open Go.RowKit Go.Lib

section
variable {P : Program} {ops : Array Oper} {K : St → List Ef → Prop} {o : Oper} {l : List Oper} {st : St} {F : List Ef}
theorem Walk.nil (h : K st F) : Walk P ops K [] st F := h
theorem Walk.no (hg : gNo ops st o = true) (h : Walk P ops K l (st.put o.dst (.tup []) []) (F ++ [⟨o.dst, .tup [], [], gLoc ops o⟩])) : Walk P ops K (o :: l) st F := .inl ⟨hg, h⟩
theorem Walk.yes {R : List Loc} {val : A} {bl : List (Nat × Blk)} (hg : gYes ops st o = true) (hop : OpRun P o st R val bl) (h : Walk P ops K l (st.put o.dst val bl) (F ++ [⟨o.dst, val, bl, gLoc ops o ++ R⟩])) : Walk P ops K (o :: l) st F := .inr ⟨hg, R, val, bl, hop, h⟩
/-- The same state, written out. -/
theorem Walk.to_ {st' : St} (e : st = st') (h : Walk P ops K l st' F) : Walk P ops K l st F := e ▸ h
end
section
variable {P : Program} {K : Exit → St → Prop} {b c : Code} {st : St}
theorem Then.normal (h : AWP P K b st) : Then P K b .normal st := h
theorem Then.exit {id : Nat} (h : K (.exit id) st) : Then P K b (.exit id) st := h
theorem Then.ret (h : K .ret st) : Then P K b .ret st := h
theorem InBlock.normal {id : Nat} (h : K .normal st) : InBlock id K .normal st := h
theorem InBlock.ret {id : Nat} (h : K .ret st) : InBlock id K .ret st := h
theorem InBlock.same {id : Nat} (h : K .normal st) : InBlock id K (.exit id) st := by simp only [InBlock, Nat.beq_refl]; exact h
theorem InBlock.other {id id' : Nat} (hne : Nat.beq id' id = false) (h : K (.exit id') st) : InBlock id K (.exit id') st := by simp only [InBlock, hne]; exact h
def RoundK (P : Program) (K : Exit → St → Prop) (c : Code) (n : Nat) : Exit → St → Prop := fun e st' => match e with | .normal => Rounds P K c n st' | e => K e st'
theorem Rounds.succ {n : Nat} (h : AWP P (RoundK P K c n) c st) : Rounds P K c (n + 1) st := h
theorem RoundK.normal {n : Nat} (h : Rounds P K c n st) : RoundK P K c n .normal st := h
theorem RoundK.exit {n id : Nat} (h : K (.exit id) st) : RoundK P K c n (.exit id) st := h
theorem RoundK.ret {n : Nat} (h : K .ret st) : RoundK P K c n .ret st := h
theorem Rounds.weak {n : Nat} {st' : St} (hw : Weak st st') (h : Rounds P K c n st') : Rounds P K c n st := by
  cases n with
  | zero => exact h.elim
  | succ n => exact AWP.weak hw h
theorem Rounds.ind {α : Type} (S : α → St) (I : α → Prop) (μ : α → Nat) (step : ∀ (x : α) (n : Nat), I x → (∀ y, I y → μ y < μ x → Rounds P K c n (S y)) → AWP P (RoundK P K c n) c (S x)) : ∀ (n : Nat) (x : α), I x → μ x < n → Rounds P K c n (S x)
  | 0, x, _, h => by omega
  | n + 1, x, hI, h => Rounds.succ (step x n hI fun y hy hlt => Rounds.ind S I μ step n y hy (by omega))
/-- A loop, by what a state of it says. -/
theorem AWP.loopI {α : Type} (S : α → St) (I : α → Prop) (μ : α → Nat) (x : α) (hw : Weak st (S x)) (hI : I x)
    (step : ∀ (x : α) (n : Nat), I x → (∀ y, I y → μ y < μ x → Rounds P K c n (S y)) → AWP P (RoundK P K c n) c (S x)) : AWP P K (.loop c) st :=
  AWP.weak hw (AWP.loop (μ x + 1) (Rounds.ind S I μ step _ x hI (by omega)))
theorem AWP.to_ {st' : St} (e : st = st') (h : AWP P K c st') : AWP P K c st := e ▸ h
theorem AWP.if_ {c : Operand} {x y : Code} (bv : Bool) (hc : opA st c = .d (.lit (.bool bv))) (h : AWP P K (match bv with | true => x | false => y) st) : AWP P K (.cond c x y) st :=
  AWP.cond hc (fun e => by subst e; exact h) (fun e => by subst e; exact h)
end

/-! ### calls -/
def preOK (ids : List Nat) (H : List Blk) : List Nat → List Blk → Prop
  | [], [] => True
  | i :: is, b :: bs => b.ren ids = some (H.getD i .unborn) ∧ preOK ids H is bs
  | _, _ => False
theorem preOK_ren {ids : List Nat} {H : List Blk} : ∀ {is : List Nat} {bs : List Blk}, preOK ids H is bs → is.length = bs.length ∧ ∀ j k, is[j]? = some k → (bs.getD j .unborn).ren ids = some (H.getD k .unborn)
  | [], [], _ => ⟨rfl, fun j k h => by simp at h⟩
  | i :: is, b :: bs, h => by
    obtain ⟨h1, h2⟩ := h
    obtain ⟨h3, h4⟩ := preOK_ren h2
    refine ⟨by simp [h3], fun j k hj => ?_⟩
    cases j with
    | zero => simp only [List.getElem?_cons_zero, Option.some.injEq] at hj; subst hj; exact h1
    | succ j => exact h4 j k (by simpa using hj)
  | [], _ :: _, h => h.elim
  | _ :: _, [], h => h.elim
def renBs (ids : List Nat) : List Blk → Option (List Blk)
  | [] => some []
  | b :: bs => match b.ren ids, renBs ids bs with | some c, some cs => some (c :: cs) | _, _ => none
theorem renBs_spec {ids : List Nat} : ∀ {bs cs : List Blk}, renBs ids bs = some cs → cs.length = bs.length ∧ ∀ (j : Nat) (b : Blk), bs[j]? = some b → ∃ b', cs[j]? = some b' ∧ b.ren ids = some b'
  | [], cs, h => by simp only [renBs, Option.some.injEq] at h; subst h; exact ⟨rfl, fun j b h => by simp at h⟩
  | b :: bs, cs, h => by
    simp only [renBs] at h
    cases hb : b.ren ids with
    | none => rw [hb] at h; simp at h
    | some c =>
      cases hr : renBs ids bs with
      | none => rw [hb, hr] at h; simp at h
      | some ds =>
        rw [hb, hr] at h; simp only [Option.some.injEq] at h; subst h
        obtain ⟨h1, h2⟩ := renBs_spec hr
        refine ⟨by simp [h1], fun j x hj => ?_⟩
        cases j with
        | zero => simp only [List.getElem?_cons_zero, Option.some.injEq] at hj; subst hj; exact ⟨c, rfl, hb⟩
        | succ j => simpa using h2 j x (by simpa using hj)
def nodupB : List Nat → Bool
  | [] => true
  | x :: l => match inB l x with | true => false | false => nodupB l
theorem nodupB_spec : ∀ {l : List Nat}, nodupB l = true → l.Nodup
  | [], _ => List.nodup_nil
  | x :: l, h => by
    simp only [nodupB] at h
    cases hi : inB l x with
    | true => rw [hi] at h; cases h
    | false =>
      rw [hi] at h
      exact List.nodup_cons.2 ⟨(fun hm => by rw [inB_iff.2 hm] at hi; cases hi), nodupB_spec h⟩
def isUnborn : Blk → Bool
  | .unborn => true
  | _ => false
/-- What a call asks of the names, in one Bool. -/
def callB (H : List Blk) (post : List Blk) (pids nids vids : List Nat) : Bool :=
  nodupB (pids ++ nids) && Nat.beq (pids ++ nids).length post.length && post.all (·.notFro) && nids.all (fun i => isUnborn (H.getD i .unborn)) && vids.all (fun i => !inB (pids ++ nids) i)
section
variable {P : Program} {o : Oper} {st : St} {callee : Operand} {args : List Operand} {ats : Array TypeId} {f : FuncId} {first cap xs : List A} {pre : List Blk} {res : A} {post : List Blk} {val : A} {post' : List Blk}
theorem mkCallN (pids nids vids : List Nat) (con : GCall P f xs pre res post) (ho : o.op = .call ⟨.value callee, args.toArray, ats⟩) (hfn : opA st callee = .clo (.func f) first cap) (hin : ∀ args w, (callFunc f args).run P w = .ok (.enter f args) w)
    (hargs : ∃ zs, A.rens pids xs = some zs ∧ nnL zs (A.views st.H vids (first ++ args.map (opA st) ++ cap))) (hpre : preOK pids st.H pids pre) (hB : callB st.H post pids nids vids = true) (hpost : renBs (pids ++ nids) post = some post') (hres : res.ren (pids ++ nids) = some val) :
    CallOK P st o callee args f first cap xs pre res post pids nids vids val post' := by
  simp only [callB, Bool.and_eq_true] at hB
  obtain ⟨⟨⟨⟨h1, h2⟩, h3⟩, h4⟩, h5⟩ := hB
  obtain ⟨h6, h7⟩ := preOK_ren hpre
  obtain ⟨h8, h9⟩ := renBs_spec hpost
  refine ⟨⟨ats, ho⟩, hfn, hin, con, hargs, ⟨h6, h7⟩, nodupB_spec h1, ⟨Nat.eq_of_beq_eq_true h2, h9⟩, h8, fun b hb => List.all_eq_true.1 h3 b hb, fun id hid => ?_, fun id hid => ?_, hres⟩
  · have := List.all_eq_true.1 h4 id hid
    cases hb : st.H.getD id .unborn <;> rw [hb] at this <;> first | rfl | cases this
  · have := List.all_eq_true.1 h5 id hid
    intro hm
    rw [inB_iff.2 hm] at this; cases this
end
/-- A contract whose new blocks are frozen when it comes back. -/
theorem GCall.cast {P : Program} {f : FuncId} {args args' : List A} {pre pre' : List Blk} {res res' : A} {post post' : List Blk} (h : GCall P f args pre res post) (h1 : args = args') (h2 : pre = pre') (h3 : res = res') (h4 : post = post') : GCall P f args' pre' res' post' := by
  subst h1; subst h2; subst h3; subst h4; exact h

/-! ### integers -/
section
variable {P : Program} {t : TypeId} {x y : Operand} {k k' : IntKind} {a b : Int} {w : World}
theorem hb_add : (do eqGuard .add t x y (.int k a) (.int k b); binOp .add t (.int k a) (.int k b) : Sem Value).run P w = .ok (.int k (k.wrap (a + b))) w := by simp [eqGuard, binOp, Op.intArith]
theorem hb_sub : (do eqGuard .sub t x y (.int k a) (.int k b); binOp .sub t (.int k a) (.int k b) : Sem Value).run P w = .ok (.int k (k.wrap (a - b))) w := by simp [eqGuard, binOp, Op.intArith]
theorem hb_mul : (do eqGuard .mul t x y (.int k a) (.int k b); binOp .mul t (.int k a) (.int k b) : Sem Value).run P w = .ok (.int k (k.wrap (a * b))) w := by simp [eqGuard, binOp, Op.intArith]
theorem hb_rem (hb : b ≠ 0) : (do eqGuard .rem t x y (.int k a) (.int k b); binOp .rem t (.int k a) (.int k b) : Sem Value).run P w = .ok (.int k (a.tmod b)) w := by simp [eqGuard, binOp, Op.intDiv, hb]
theorem hb_shr {n : Nat} (hn : n ≤ k.bits) (hb : b = (n : Int)) : (do eqGuard .shr t x y (.int k a) (.int k' b); binOp .shr t (.int k a) (.int k' b) : Sem Value).run P w = .ok (.int k (a.fdiv (2 ^ n))) w := by
  subst hb; have h0 : ¬ ((n : Int) < 0) := by omega
  simp [eqGuard, binOp, Op.shift, Nat.min_eq_left hn, h0]
theorem hb_lss : (do eqGuard .lss t x y (.int k a) (.int k b); binOp .lss t (.int k a) (.int k b) : Sem Value).run P w = .ok (.bool (decide (a < b))) w := by simp [eqGuard, binOp, Op.intCmp]
theorem hb_leq : (do eqGuard .leq t x y (.int k a) (.int k b); binOp .leq t (.int k a) (.int k b) : Sem Value).run P w = .ok (.bool (decide (a ≤ b))) w := by simp [eqGuard, binOp, Op.intCmp]
theorem hb_gtr : (do eqGuard .gtr t x y (.int k a) (.int k b); binOp .gtr t (.int k a) (.int k b) : Sem Value).run P w = .ok (.bool (decide (b < a))) w := by simp [eqGuard, binOp, Op.intCmp]
theorem hb_geq : (do eqGuard .geq t x y (.int k a) (.int k b); binOp .geq t (.int k a) (.int k b) : Sem Value).run P w = .ok (.bool (decide (b ≤ a))) w := by simp [eqGuard, binOp, Op.intCmp]
theorem hb_eql : (do eqGuard .eql t x y (.int k a) (.int k b); binOp .eql t (.int k a) (.int k b) : Sem Value).run P w = .ok (.bool (decide (a = b))) w := by
  simp [eqGuard, binOp, Op.intCmp]; exact Bool.eq_iff_iff.2 (by simp)
theorem hb_neq : (do eqGuard .neq t x y (.int k a) (.int k b); binOp .neq t (.int k a) (.int k b) : Sem Value).run P w = .ok (.bool (decide (a ≠ b))) w := by
  simp [eqGuard, binOp, Op.intCmp]; exact Bool.eq_iff_iff.2 (by simp)
variable {s u : ByteArray}
theorem toList_inj {s u : ByteArray} : s.toList = u.toList ↔ s = u := by
  constructor
  · intro h
    rw [ByteArray.toList_eq, ByteArray.toList_eq] at h
    cases s; cases u; simp at h; simp [h]
  · intro h; rw [h]
variable {p q : Bool}
theorem hu_not : (Op.unary .not (.bool p)).run P w = .ok (.bool !p) w := rfl
end
end Go.Proofs.Ytcpageegmpjkiaa.K

namespace Go.Proofs.Ytcpageegmpjkiaa.K
open Go.RowKit Go.Lib

/-- The cells of a list of things, each of so many cells. -/
def flatD {α : Type} (enc : α → List D) (l : List α) : List D := l.flatMap enc
section
variable {α : Type} {enc : α → List D} {sz : Nat}
@[simp] theorem flatD_nil : flatD enc [] = [] := rfl
theorem flatD_cons (x : α) (l : List α) : flatD enc (x :: l) = enc x ++ flatD enc l := rfl
theorem flatD_append (l r : List α) : flatD enc (l ++ r) = flatD enc l ++ flatD enc r := by simp [flatD]
theorem flatD_length (h : ∀ a, (enc a).length = sz) : ∀ l : List α, (flatD enc l).length = l.length * sz
  | [] => by simp
  | x :: l => by rw [flatD_cons, List.length_append, h, flatD_length h l, List.length_cons, Nat.add_mul]; omega
theorem flat_drop (h : ∀ a, (enc a).length = sz) : ∀ {l : List α} {i : Nat} {x : α}, l[i]? = some x → (flatD enc l).drop (i * sz) = enc x ++ flatD enc (l.drop (i + 1))
  | [], i, x, hx => by simp at hx
  | y :: l, 0, x, hx => by
    simp only [List.getElem?_cons_zero, Option.some.injEq] at hx
    subst hx
    simp [flatD_cons]
  | y :: l, i + 1, x, hx => by
    rw [flatD_cons, Nat.add_mul, Nat.one_mul, List.drop_append]
    have e1 : (enc y).drop (i * sz + sz) = [] := List.drop_of_length_le (by rw [h]; omega)
    rw [e1, List.nil_append, h, Nat.add_sub_cancel]
    exact flat_drop h (by simpa using hx)
variable {l : List α} {i : Nat} {x : α} {k : Nat}
theorem flat_ref_at (h : ∀ a, (enc a).length = sz) (hx : l[i]? = some x) {z : D} (hz : (enc x)[0]? = some z) : ((List.drop (i * sz) (flatD enc l)).map A.d)[0]? = some (.d z) := by
  have hl : 0 < (enc x).length := (List.getElem?_eq_some_iff.1 hz).1
  rw [flat_drop h hx, List.getElem?_map, List.getElem?_append_left hl, hz]; rfl
theorem flat_refk_at (h : ∀ a, (enc a).length = sz) (hx : l[i]? = some x) {z : D} (hz : (enc x)[k]? = some z) : ((List.drop k (List.drop (i * sz) (flatD enc l))).map A.d)[0]? = some (.d z) := by
  have hl : k < (enc x).length := (List.getElem?_eq_some_iff.1 hz).1
  rw [flat_drop h hx, List.getElem?_map, List.getElem?_drop]
  simp only [Nat.add_zero]
  rw [List.getElem?_append_left hl, hz]; rfl
theorem flat_ref_le (h : ∀ a, (enc a).length = sz) (hx : l[i]? = some x) {zs : List A} (hz : zs.length ≤ sz) : 0 + zs.length ≤ ((List.drop (i * sz) (flatD enc l)).map A.d).length := by
  rw [flat_drop h hx, List.length_map, List.length_append, h]; omega
theorem flat_ref (h : ∀ a, (enc a).length = sz) (hx : l[i]? = some x) {zs : List A} (hz : ((enc x).take zs.length).map A.d = zs) : ((((List.drop (i * sz) (flatD enc l)).map A.d).drop 0).take zs.length) = zs := by
  have hl : zs.length ≤ (enc x).length := by
    have := congrArg List.length hz
    simp at this; omega
  rw [flat_drop h hx, List.drop_zero, ← List.map_take, List.take_append_of_le_length hl]; exact hz
theorem flat_row_at (h : ∀ a, (enc a).length = sz) (hx : l[i]? = some x) {z : D} (hz : (enc x)[0]? = some z) : ((flatD enc l).map A.d)[i * sz]? = some (.d z) := by
  have := flat_ref_at h hx hz
  rw [List.getElem?_map, List.getElem?_drop, Nat.add_zero] at this
  rw [List.getElem?_map]; exact this
theorem flat_rowk_at (h : ∀ a, (enc a).length = sz) (hx : l[i]? = some x) {z : D} (hz : (enc x)[k]? = some z) : ((flatD enc l).map A.d)[i * sz + k]? = some (.d z) := by
  have := flat_refk_at h hx hz
  rw [List.getElem?_map, List.getElem?_drop, List.getElem?_drop, Nat.add_zero] at this
  rw [List.getElem?_map]; exact this
theorem flat_row_le (h : ∀ a, (enc a).length = sz) (hx : l[i]? = some x) {zs : List A} (hz : zs.length ≤ sz) : i * sz + zs.length ≤ ((flatD enc l).map A.d).length := by
  have hi := (List.getElem?_eq_some_iff.1 hx).1
  rw [List.length_map, flatD_length h]
  have := Nat.mul_le_mul_right sz (show i + 1 ≤ l.length by omega)
  rw [Nat.add_mul] at this; omega
theorem flat_row (h : ∀ a, (enc a).length = sz) (hx : l[i]? = some x) {zs : List A} (hz : ((enc x).take zs.length).map A.d = zs) : ((((flatD enc l).map A.d).drop (i * sz)).take zs.length) = zs := by
  have := flat_ref h hx hz
  rw [List.drop_zero, List.map_drop] at this
  exact this
end
/-! ### the ends -/
section
variable {P : Program} {rs : List ResultVar} {k : Nat} {res : A} {post : List Blk} {st : St}
theorem ret_any (ids : List Nat) (xs : List A) (h1 : resList P st rs = some xs) (h2 : res.ren ids = some (one xs).nn) (h3 : preOK ids st.H ids post) (h4 : nodupB ids = true) (h5 : k ≤ ids.length ∧ ids.take k = List.range k) : RetK P rs k res post .ret st ∧ RetK P rs k res post .normal st := by
  obtain ⟨h6, h7⟩ := preOK_ren h3
  have : ∃ (ids : List Nat) (xs : List A), resList P st rs = some xs ∧ res.ren ids = some (one xs).nn ∧ renH ids post st.H ∧ ids.Nodup ∧ k ≤ ids.length ∧ ids.take k = List.range k :=
    ⟨ids, xs, h1, h2, ⟨h6, h7⟩, nodupB_spec h4, h5.1, h5.2⟩
  exact ⟨this, this⟩
end
section
variable {P : Program} {o : Oper} {st : St}
end
section
variable {P : Program} {o : Oper} {st : St}
/-- 's == nil'. -/
theorem op_eqnil {t u e : TypeId} {x y : Operand} {ya : A} {ds : List D} {off n : Nat} (ho : o.op = .binOp .eql t x y u) (hu : P.underlying t = some (.slice e)) (hx : opA st x = ya) (hs0 : sliceAt st.H ya = some (ds, off, n)) (hy : opA st y = .d .nil) : OpRun P o st (locsOf [x, y] ++ locA ya) (.ab (n = 0)) [] := by
  refine .pure fun st' hag cx m S a w hs => ?_
  have hr := op_rep hx (R := locsOf [x, y] ++ locA ya) (fun l h => by simp [locsOf, h]) hag hs
  have h2 := op_rep hy (R := locsOf [x, y] ++ locA ya) (fun l h => by simp [locsOf, h]) hag hs
  rw [← sliceA_agree fun l h => hag l (by simp [h])] at hs0
  obtain ⟨p, cap, hv, _, _, h3, _⟩ := sliceAt_spec hs.hold hs0 hr
  simp only [Rep, RepD] at h2
  refine ⟨.bool p.isNone, ?_, by simp only [Rep]; exact ⟨_, rfl, fun h => by cases p with | none => exact (h3 rfl).1 | some q => cases h⟩⟩
  have hq : ∀ w, (Op.equal t (.slice p n cap) (.slice none 0 0)).run P w = .ok p.isNone w := fun w => by
    unfold Op.equal
    rw [show Op.maxDepth = 9999 + 1 from rfl, Op.equalIn]
    cases p <;> simp [run_underlying hu]
  simp only [execOp, ho, hv, h2, eqGuard, binOp, Sem.run_bind, hq, Result.andThen_ok]
  rfl
end
theorem getD_snoc {H H' : List Blk} {b : Blk} {j : Nat} (e : H' = H ++ [b]) (hj : j ≠ H.length) : H'.getD j .unborn = H.getD j .unborn := by
  subst e
  rw [List.getD_eq_getElem?_getD, List.getD_eq_getElem?_getD, List.getElem?_append]
  split
  · rfl
  · rename_i h
    rw [List.getElem?_eq_none (by simp; omega), List.getElem?_eq_none (by omega)]
theorem ownH_set {H H' : List Blk} {i : Nat} {xs ys : List A} {b : Blk} (e : H' = H.set i (.box xs) ++ [b]) (hb : H.getD i .unborn = .box ys) (hi : i < H.length) (hw : wkN H.length xs ys) :
    ∀ j, j ≠ H.length → H'.getD j .unborn = H.getD j .unborn ∨ ∃ xs ys, H'.getD j .unborn = .box xs ∧ H.getD j .unborn = .box ys ∧ wkN H.length xs ys := by
  intro j hj
  have h1 := getD_snoc (H := H.set i (.box xs)) (b := b) (j := j) e (by simpa using hj)
  by_cases hji : j = i
  · subst hji
    refine .inr ⟨xs, ys, ?_, hb, hw⟩
    rw [h1, List.getD_eq_getElem?_getD, List.getElem?_set]; simp [hi]
  · left
    rw [h1, List.getD_eq_getElem?_getD, List.getD_eq_getElem?_getD, List.getElem?_set, if_neg (by omega)]
theorem flat_all {α : Type} {enc : α → List D} {sz : Nat} (h : ∀ a, (enc a).length = sz) {l : List α} : ((flatD enc l).drop 0).take (l.length * sz) = flatD enc l := by
  rw [List.drop_zero, List.take_of_length_le (by rw [flatD_length h]; exact Nat.le_refl _)]
theorem bl_app {i j e sz n n' : Nat} {xs ys : List D} (h1 : n = n') (h2 : xs = ys) : [(i, Blk.gone), (j, Blk.arr e sz n xs)] = [(i, Blk.gone), (j, Blk.arr e sz n' ys)] := by rw [h1, h2]
theorem bl_one {j e sz n n' : Nat} {xs ys : List D} (h1 : n = n') (h2 : xs = ys) : [(j, Blk.arr e sz n xs)] = [(j, Blk.arr e sz n' ys)] := by rw [h1, h2]
theorem flat_take {α : Type} {enc : α → List D} {sz : Nat} (h : ∀ a, (enc a).length = sz) : ∀ {l : List α} {k : Nat}, (flatD enc l).take (k * sz) = flatD enc (l.take k)
  | [], k => by simp
  | x :: l, 0 => by simp
  | x :: l, k + 1 => by
    rw [flatD_cons, List.take_succ_cons, flatD_cons, Nat.add_mul, Nat.one_mul, List.take_append, h x, Nat.add_sub_cancel, flat_take h, List.take_of_length_le (by rw [h]; omega)]
theorem flat_dropL {α : Type} {enc : α → List D} {sz : Nat} (h : ∀ a, (enc a).length = sz) : ∀ {l : List α} {k : Nat}, (flatD enc l).drop (k * sz) = flatD enc (l.drop k)
  | [], k => by simp
  | x :: l, 0 => by simp
  | x :: l, k + 1 => by
    rw [flatD_cons, List.drop_succ_cons, Nat.add_mul, Nat.one_mul, List.drop_append, h x, Nat.add_sub_cancel, flat_dropL h, List.drop_of_length_le (by rw [h]; omega), List.nil_append]
section
variable {P : Program} {o : Oper} {st : St}
/-- 's[:h]' of a row of our own: a shorter row, by another name. -/
theorem op_sliceTo {t e sz id nid n h : Nat} {x : Operand} {hi : Operand} {k : IntKind} {hv : Int} {xs : List D} (ho : o.op = .slice t x none (some hi) none) (he : sliceElem P t = some (e, sz)) (hx : opA st x = .own id) (hb : st.H.getD id .unborn = .arr e sz n xs) (hh : opA st hi = .d (.lit (.int k hv))) (hhv : hv = (h : Int)) (hle : h ≤ n)
    (hnid : st.H.getD nid .unborn = .unborn) (hne : id ≠ nid) : OpRun P o st (locsOf [x, hi] ++ [.blk id, .blk nid]) (.own nid) [(id, .gone), (nid, .arr e sz h (xs.take (h * sz)))] := by
  refine .value fun st' hag cx m S a w hs => ?_
  have hnid' : st'.H.getD nid .unborn = .unborn := (blk1 (by simp) hag).trans hnid
  have hb' : st'.H.getD id .unborn = .arr e sz n xs := (blk1 (by simp) hag).trans hb
  have hrs := op_rep hx (R := locsOf [x, hi] ++ [.blk id, .blk nid]) (fun l h => by simp [locsOf, h]) hag hs
  have hev := op_lit hh (R := locsOf [x, hi] ++ [.blk id, .blk nid]) (fun l h => by simp [locsOf, h]) hag hs
  have hok := hs.hold.ok id
  rw [hb'] at hok
  obtain ⟨v, h5, h6, h9⟩ := hok
  simp only [Rep, h5] at hrs
  obtain ⟨hrs, _⟩ := hrs
  have h6' := h6
  obtain ⟨cells, ⟨hl, hq⟩, h7, h8⟩ := h6
  obtain ⟨p, cap, rv, r2, r3, r4, r5, r6⟩ := row_slice h6'
  have hrun := run_slice (P := P) (a := a) (w := w) (lo := none) (hi := some hi) (l := 0) (h := h) ho he (by rw [hrs]; exact rv) rfl ⟨k, by rw [hev, hhv]⟩ (Nat.zero_le _) (by omega)
  have hval : (Value.slice (if cap = 0 then p else p.map (·.add (0 * sz))) (h - 0) (cap - 0)) = .slice p h cap := by
    cases p <;> simp [Addr.add]
  rw [hval] at hrun
  have hown : OwnsR w e sz (.slice p h cap) h (cells.take (h * sz)) := by
    refine ⟨?_, ?_⟩
    · rw [List.length_take, hl]
      exact Nat.min_eq_left (Nat.mul_le_mul_right sz hle)
    · rcases hq with ⟨hv0, hn0⟩ | ⟨g, cap', cur, hv0, hB, hg, hn1, hm1, hs1, ht1⟩
      · left
        rw [rv] at hv0
        simp only [Value.slice.injEq] at hv0
        obtain ⟨rfl, h1, rfl⟩ := hv0
        have : h = 0 := by omega
        subst this
        exact ⟨rfl, rfl⟩
      · right
        rw [rv] at hv0
        simp only [Value.slice.injEq] at hv0
        obtain ⟨rfl, h1, rfl⟩ := hv0
        refine ⟨g, cap, cur, rfl, hB, hg, by omega, hm1, hs1, ?_⟩
        rw [← ht1, List.take_take, Nat.min_eq_left (Nat.mul_le_mul_right sz hle)]
  have hob : (Value.slice p h cap).ownBlock = v.ownBlock := by rw [rv]; cases p <;> rfl
  have hold := hold_grow (b := .arr e sz h (xs.take (h * sz))) (v' := .slice p h cap) hs.hold h5 h9 hnid' hne (World.grownBy.refl _ _) (fun g hg => ownsRow_lt hown g hg) (fun g hg => .inl (hob.symm.trans hg)) fun hK hLe =>
    ⟨_, by simp only [updM, if_true], ⟨cells.take (h * sz), hown, ⟨by simp [h7.1], fun i y u hy hu => by
      rw [List.getElem?_take] at hy hu
      split at hy
      · rename_i hi; rw [if_pos hi] at hu; exact h7.2 i y u hy hu
      · cases hy⟩, fun u hu => h8 u (List.mem_of_mem_take hu)⟩, fun g hg => h9 g (hob.symm.trans hg)⟩
  refine ⟨_, w, _, S, hrun, hold.1, fun _ h => h, hold.2.1, hold.2.2, ?_⟩
  simp only [Rep, updM, if_true]
  exact ⟨trivial, rfl⟩
end
theorem plain_triv {x : A} (h : x.Plain) : x.Plain ∧ ∀ b ∈ ([] : List Blk), b.Plain := ⟨h, fun b hb => by cases hb⟩
end Go.Proofs.Ytcpageegmpjkiaa.K

namespace Go.Proofs.Ytcpageegmpjkiaa.K
open Go.RowKit Go.Lib

theorem wrap_u64 (n : Int) : IntKind.u64.wrap n = n % 18446744073709551616 := by simp [IntKind.wrap, IntKind.signed, IntKind.bits]
section
variable {P : Program}
theorem run_conv {s t : TypeId} {ds : TypeDesc} {k k' : IntKind} {a : Int} (hs : P.underlying s = some ds) (ht : P.underlying t = some (.int k')) (w : World) : (convert s t (.int k a)).run P w = .ok (.int k' (k'.wrap a)) w := by
  simp [convert, run_underlying hs, run_underlying ht, Conv.intToInt]
end
section
variable {P : Program} {o : Oper} {st : St}
end
/-- A contract whose new blocks are frozen. -/
theorem GCall.frz {P : Program} {f : FuncId} {args : List A} {res res' : A} {post : List Blk} (h : GCall P f args [] res post) (vids : List Nat) (hr : res'.ren [] = some (A.nn (res.view post vids))) : GCall P f args [] res' [] := by
  intro m S w vs hg hz hH hargs
  refine Calls.mono (h m S w vs hg hz hH hargs) fun e w' ⟨v, m', S', he, h1, h2⟩ => ⟨v, via [] (fzm m' post vids), SV' m' S' vids, he, ?_, ?_⟩
  · have hf := h1.freeze (vids := vids) (H' := putB post (vids.map fun id => (id, (post.getD id .unborn).frz))) fun k => by
      rw [getD_putB, lastB_frz]
      by_cases hk : k ∈ vids <;> simp [hk]
    exact hf.via (ids := []) List.nodup_nil ⟨rfl, fun j k hk => by simp at hk⟩ fun id p hp => by
      have := hH.ok id
      simp only [List.getD_nil, BlkOK] at this
      simp only at hp
      rw [this] at hp; cases hp
  · exact (Rep.via res' _ v hr).2 (Rep.nn _ _ (Rep.mono (fzm_le h1 vids) (fun _ h => h) (Keeps.refl _ w') _ _ (Rep.view h1 _ _ h2)))
end Go.Proofs.Ytcpageegmpjkiaa.K

namespace Go.Proofs.Ytcpageegmpjkiaa
open Go.RowKit

/-- A slice that reads as these cells (sz of them an element). -/
def IsSl (sz : Nat) (cs : List Value) : SP := fun v w => ∃ a n cap, v = .slice a n cap ∧ cs.length = n * sz ∧ n ≤ cap ∧ cap ≤ maxLen ∧ (a = none → n = 0 ∧ cap = 0) ∧
  ∀ p, a = some p → ∀ j u, cs[j]? = some u → w.cell? (p.add j) = some u
/-- A slice that lies at the head of a block of our own (from block B on), or nil. -/
def Owns (B : Nat) (e : TypeId) (sz : Nat) (cs : List Value) : SP := fun v w => ∃ n, w.ownsRow B e sz v n cs

theorem cell_ext {w w' : World} (h : Ext w w') {a : Addr} {u : Value} (hc : w.cell? a = some u) : w'.cell? a = some u := by
  rw [h.cell (World.block_lt_of_cell? w a hc)]; exact hc
theorem IsSl.stable (sz : Nat) (cs : List Value) : Stable (IsSl sz cs) := by
  rintro v w w' ⟨a, n, cap, rfl, hl, hn, hc, ha, h⟩ hx
  exact ⟨a, n, cap, rfl, hl, hn, hc, ha, fun p hp j u hj => cell_ext hx (h p hp j u hj)⟩
theorem Owns.stable (B : Nat) (e : TypeId) (sz : Nat) (cs : List Value) : Stable (Owns B e sz cs) := by
  rintro v w w' ⟨n, h⟩ hx
  exact ⟨n, h.kept (row := none) ⟨hx.os, hx.tape, hx.output, hx.size, fun k hk _ => hx.block k hk⟩ (by cases v.ownBlock <;> simp)⟩
theorem Owns.mono {B B' : Nat} {e : TypeId} {sz : Nat} {cs : List Value} {v : Value} {w : World} (h : Owns B e sz cs v w) (hB : B' ≤ B) : Owns B' e sz cs v w := by
  obtain ⟨n, h1, h2⟩ := h
  refine ⟨n, h1, ?_⟩
  rcases h2 with h2 | ⟨g, cap, cur, hv, hg, r⟩
  · exact .inl h2
  · exact .inr ⟨g, cap, cur, hv, by omega, r⟩
theorem Owns.nil (B : Nat) (e : TypeId) (sz : Nat) (w : World) : Owns B e sz [] (.slice none 0 0) w := ⟨0, World.ownsRow_nil w B e sz⟩
theorem addr_add (b o j : Nat) : (⟨b, o, none⟩ : Addr).add j = ⟨b, o + j, none⟩ := by unfold Addr.add; split <;> simp_all
theorem Owns.lit (w : World) (e : TypeId) (sz : Nat) (cs : List Value) (n : Nat) (hn : cs.length = n * sz) (hm : n ≤ maxLen) :
    Owns w.heap.size e sz cs (.slice (some ⟨w.heap.size, 0, none⟩) n n) (w.alloc (.cells cs.toArray e)) := by
  have := World.ownsRow_lit (base := w.heap.size) (e := e) (size := sz) w cs.toArray n (Nat.le_refl _) hm (by simpa using hn)
  exact ⟨n, by simpa using this⟩
/-- A slice that is not empty, taken apart. -/
theorem IsSl.at {sz : Nat} {cs : List Value} {v : Value} {w : World} (h : IsSl sz cs v w) (hne : cs ≠ []) :
    ∃ b off n cap, v = .slice (some ⟨b, off, none⟩) n cap ∧ cs.length = n * sz ∧ n ≤ cap ∧ cap ≤ maxLen ∧ ∀ j u, cs[j]? = some u → w.cell? ⟨b, off + j, none⟩ = some u := by
  obtain ⟨a, n, cap, rfl, hl, hn, hc, ha, hcell⟩ := h
  cases a with
  | none =>
    obtain ⟨rfl, rfl⟩ := ha rfl
    exact absurd (List.eq_nil_of_length_eq_zero (by simpa using hl)) hne
  | some p =>
    obtain ⟨b, off, spot⟩ := p
    have h0 := hcell _ rfl 0 (cs[0]'(List.length_pos_iff.2 hne)) (by simp)
    have hspot : spot = none := by simpa [Addr.add] using World.cell?_spot h0
    subst hspot
    exact ⟨b, off, n, cap, rfl, hl, hn, hc, fun j u hj => by rw [← addr_add]; exact hcell _ rfl j u hj⟩
theorem Owns.at {B : Nat} {e : TypeId} {sz : Nat} {cs : List Value} {v : Value} {w : World} (h : Owns B e sz cs v w) (hne : cs ≠ []) :
    ∃ g n cap, v = .slice (some ⟨g, 0, none⟩) n cap ∧ B ≤ g ∧ cs.length = n * sz ∧ n ≤ cap ∧ cap ≤ maxLen ∧ ∀ j u, cs[j]? = some u → w.cell? ⟨g, j, none⟩ = some u := by
  obtain ⟨n, h⟩ := h
  have h' := h
  obtain ⟨h1, h2 | ⟨g, cap, cur, rfl, hg, hh, hn, hm, hs, ht⟩⟩ := h
  · obtain ⟨rfl, rfl⟩ := h2
    exact absurd (List.eq_nil_of_length_eq_zero (by simpa using h1)) hne
  · exact ⟨g, n, cap, rfl, hg, h1, hn, hm, fun j u hj => by have := h'.cells (g := g) rfl j u hj; rwa [addr_add, Nat.zero_add] at this⟩
theorem IsSl.ptr {sz : Nat} {cs : List Value} {a : Option Addr} {n cap : Nat} {w : World} (h : IsSl sz cs (.slice a n cap) w) (hne : 0 < cs.length) : ∃ b off, a = some ⟨b, off, none⟩ := by
  obtain ⟨b, off, n', cap', he, _⟩ := h.at (List.length_pos_iff.1 hne)
  simp only [Value.slice.injEq] at he
  exact ⟨b, off, he.1⟩
theorem Ext.grown {w0 w w' : World} {e : TypeId} {sz : Nat} {cs : List Value} {v : Value} (hx : Ext w0 w) (ho : Owns w0.heap.size e sz cs v w) (hg : w.grownBy w' v.ownBlock) : Ext w0 w' := by
  obtain ⟨n, ho⟩ := ho
  exact Below.grown hx hg hx.size fun k hk => (ho.lt k hk).1
/-- Blocks of cells of another type than e are as they were. -/
def Other (e : TypeId) (w w' : World) : Prop := ∀ (g : Nat) (cur : Array Value) (e' : TypeId) (fr : Nat × Nat), w.heap[g]? = some (Obj.cells cur e' fr) → e' ≠ e → w'.heap[g]? = some (Obj.cells cur e' fr)
theorem Other.refl (e : TypeId) (w : World) : Other e w w := fun _ _ _ _ h _ => h
theorem Other.trans {e : TypeId} {a b c : World} (h : Other e a b) (k : Other e b c) : Other e a c := fun g cur e' fr h1 h2 => k g cur e' fr (h g cur e' fr h1 h2) h2
theorem Ext.other {w w' : World} (h : Ext w w') (e : TypeId) : Other e w w' := fun g cur e' fr h1 _ => by
  rw [h.block g (Array.getElem?_eq_some_iff.1 h1).1]; exact h1
theorem Other.grown {e : TypeId} {sz : Nat} {B : Nat} {cs : List Value} {v : Value} {w w' : World} (ho : Owns B e sz cs v w) (hg : w.grownBy w' v.ownBlock) : Other e w w' := by
  intro g cur e' fr h1 h2
  rw [hg.block g (Array.getElem?_eq_some_iff.1 h1).1 fun hrow => ?_]; exact h1
  obtain ⟨n, _, ⟨rfl, _⟩ | ⟨g', cap, cur', rfl, _, hh, _⟩⟩ := ho
  · simp [Value.ownBlock] at hrow
  · simp only [Value.ownBlock, Option.some.injEq] at hrow
    subst hrow
    rw [hh] at h1
    simp only [Option.some.injEq, Obj.cells.injEq] at h1
    exact h2 h1.2.1.symm
theorem Owns.other {B : Nat} {e e' : TypeId} {sz : Nat} {cs : List Value} {v : Value} {w w' : World} (h : Owns B e sz cs v w) (ho : Other e' w w') (hne : e ≠ e') : Owns B e sz cs v w' := by
  obtain ⟨n, h1, h2⟩ := h
  refine ⟨n, h1, ?_⟩
  rcases h2 with h2 | ⟨g, cap, cur, hv, hg, hh, r⟩
  · exact .inl h2
  · exact .inr ⟨g, cap, cur, hv, hg, ho g cur e _ hh hne, r⟩
theorem IsSl.lit (w : World) (e : TypeId) (sz : Nat) (cs : List Value) (n : Nat) (hn : cs.length = n * sz) (hm : n ≤ maxLen) :
    IsSl sz cs (.slice (some ⟨w.heap.size, 0, none⟩) n n) (w.alloc (.cells cs.toArray e)) :=
  ⟨_, n, n, rfl, hn, Nat.le_refl _, hm, (fun h => by cases h), fun p hp j u hj => by
    cases hp
    rw [addr_add, Nat.zero_add, World.cell?_alloc_new]
    simpa using hj⟩

section
variable {P : Program}
end

theorem Gives.base {P : Program} {f : FuncId} {args : Array Value} {w : World} {B B' : Nat} {e : TypeId} {sz : Nat} {cs : List Value} (h : Gives P f args w (Owns B e sz cs)) (hB : B' ≤ B) : Gives P f args w (Owns B' e sz cs) :=
  h.mono fun _ _ ho => ho.mono hB
section
variable {P : Program} {ops : Array Oper} {w0 : World} {tm : List Value} {Q : Exit → Act → World → Prop} {df : List Deferred} {rest l : List Oper} {U : List (Nat × SV)} {o : Oper} {d : Nat}
end
end Go.Proofs.Ytcpageegmpjkiaa

namespace Go.Proofs.Ytcpageegmpjkiaa.K
open Go.RowKit Go.Lib
section
variable {P : Program} {o : Oper} {st : St}
def arrElem (P : Program) (t : TypeId) : Option (Nat × Nat) := match P.underlying t with
  | some (.array n e) => (P.info? e).map fun i => (n, i.size)
  | _ => none
theorem arrElem_spec {t n sz : Nat} (h : arrElem P t = some (n, sz)) : ∃ e i, P.underlying t = some (.array n e) ∧ P.info? e = some i ∧ i.size = sz := by
  unfold arrElem at h
  cases hu : P.underlying t with
  | none => rw [hu] at h; cases h
  | some d =>
    rw [hu] at h
    cases d with
    | array n' e =>
      simp only at h
      cases hi : P.info? e with
      | none => rw [hi] at h; cases h
      | some i => rw [hi] at h; cases h; exact ⟨e, i, rfl, hi, rfl⟩
    | _ => cases h
theorem op_iaddr_arr {t n sz i : Nat} {x ix : Operand} {y : A} {k : IntKind} {iv : Int} (ho : o.op = .indexAddr t x ix) (hy : opA st x = y) (hc : (cellsAt st.H y).isSome = true) (he : arrElem P t = some (n, sz)) (hi : opA st ix = .d (.lit (.int k iv))) (hiv : iv = (i : Int)) (hin : i < n) :
    OpRun P o st (locsOf [x, ix] ++ locA y) (addA (i * sz) y) [] := by
  refine .pure fun st' hag cx m S a w hs => ?_
  have hr := op_rep hy (R := locsOf [x, ix] ++ locA y) (fun l h => by simp [locsOf, h]) hag hs
  have hix := op_lit hi (R := locsOf [x, ix] ++ locA y) (fun l h => by simp [locsOf, h]) hag hs
  rw [← locA_agree fun l h => hag l (by simp [h])] at hc
  obtain ⟨p, hp, h2⟩ := addA_rep hs.hold hr (by cases h : cellsAt st'.H y <;> simp_all) (i * sz)
  obtain ⟨e, inf, hu, hinf, hsz⟩ := arrElem_spec he
  refine ⟨_, ?_, h2⟩
  subst hiv
  have h0 : (0 : Int) ≤ i ∧ (i : Int) < n := by omega
  simp [execOp, ho, Instr.indexAt, hix, asIntOf, run_underlying hu, hp, Instr.sureAddr, sizeOf, typeInfo, hinf, hsz, hin]
/-! ### texts in order -/
/-! ### structs of plain cells -/
def scalEq (P : Program) (t : TypeId) (a b : Value) : Option Bool := match P.underlying t, a, b with
  | some (.int _), .int k x, .int k' y => match decide (k = k') with | true => some (decide (x = y)) | false => none
  | some .bool, .bool x, .bool y => some (decide (x = y))
  | some .string, .string x, .string y => some (decide (x = y))
  | _, _, _ => none
theorem scalEq_run {t : TypeId} {a b : Value} {r : Bool} (h : scalEq P t a b = some r) (d : Nat) (w : World) : (Op.equalIn (d + 1) t a b).run P w = .ok r w := by
  unfold scalEq at h
  split at h
  · next k0 k x k' y hu =>
    split at h
    · next hk => cases of_decide_eq_true hk; cases h; rw [run_equalIn_int w d t k _ x y hu]; congr 1
    · cases h
  · next x y hu => cases h; rw [run_equalIn_bool' w d t x y hu]; congr 1
  · next x y hu =>
    cases h; rw [run_equalIn_string w d t x y hu]
    congr 1
    exact Bool.eq_iff_iff.2 (by simp [toList_inj])
  · cases h
def partV (P : Program) (t : TypeId) (xs : List Value) (off : Nat) : Option Value := match P.underlying t with
  | some (.struct _) | some (.array _ _) | none => none
  | some _ => xs[off]?
theorem partV_run {t : TypeId} {xs : List Value} {off : Nat} {v : Value} (h : partV P t xs off = some v) (w : World) : (part t xs.toArray off).run P w = .ok v w := by
  unfold partV at h
  cases hu : P.underlying t with
  | none => rw [hu] at h; cases h
  | some d =>
    rw [hu] at h
    cases d <;> first | (simp only at h; cases h; done) | (simp only at h; simp [part, isAgg, run_underlying hu, h])
def fieldsEq (P : Program) (xs ys : List Value) : List Field → Option Bool
  | [] => some true
  | f :: fs => match decide (f.name ≠ "_"), partV P f.type xs f.offset, partV P f.type ys f.offset with
    | true, some a, some b => match scalEq P f.type a b, fieldsEq P xs ys fs with
      | some r, some s => some (r && s)
      | _, _ => none
    | _, _, _ => none
theorem fieldsEq_run {xs ys : List Value} (d : Nat) (w : World) : ∀ {fs : List Field} {r : Bool}, fieldsEq P xs ys fs = some r → (Op.eqFields (d + 1) xs.toArray ys.toArray fs).run P w = .ok r w
  | [], r, h => by cases h; simp [Op.eqFields]
  | f :: fs, r, h => by
    unfold fieldsEq at h
    split at h
    · next a b hn ha hb =>
      split at h
      · next q s hq hs =>
        cases h
        have ih := fieldsEq_run d w hs
        simp only [Op.eqFields, if_pos (of_decide_eq_true hn), Sem.run_bind, partV_run ha, partV_run hb, Result.andThen_ok, scalEq_run hq]
        cases q
        · simp
        · simp [ih]
      · cases h
    · cases h
def structEq (P : Program) (t : TypeId) (xs ys : List Value) : Option Bool := match P.underlying t, P.stoodInHeld t, P.eqGuardType P.depth t with
  | some (.struct fs), false, false => fieldsEq P xs ys fs.toList
  | _, _, _ => none
theorem structEq_spec {t : TypeId} {xs ys : List Value} {r : Bool} (h : structEq P t xs ys = some r) (w : World) : (Op.equalIn 10000 t (.agg xs.toArray) (.agg ys.toArray)).run P w = .ok r w ∧ P.eqGuardType P.depth t = false := by
  unfold structEq at h
  split at h
  · next fs hu hs hg =>
    refine ⟨?_, hg⟩
    have hf : P.fieldsOf t = fs := by simp [Program.fieldsOf, hu]
    rw [show (10000 : Nat) = 9998 + 1 + 1 from rfl, run_equalIn_struct w (9998 + 1) t _ _ (by rw [hf]; exact hu) hs, hf]
    exact fieldsEq_run 9998 w h
  · cases h
def litsOf : List A → Option (List Value)
  | [] => some []
  | .d (.lit v) :: als => (litsOf als).map (v :: ·)
  | _ => none
theorem litsOf_spec {m : Mp} {S : Nat → Prop} {w : World} : ∀ {als : List A} {us vs : List Value}, litsOf als = some us → Reps m S w als vs → vs = us
  | [], us, vs, h, hr => by cases h; simp only [Reps] at hr; exact hr
  | a :: als, us, vs, h, hr => by
    unfold litsOf at h
    split at h
    · next heq => cases heq
    · next v als' heq =>
      cases heq
      cases hl : litsOf als with
      | none => rw [hl] at h; cases h
      | some l =>
        rw [hl] at h; cases h
        simp only [Reps] at hr
        obtain ⟨u, r, rfl, h1, h2⟩ := hr
        simp only [Rep] at h1
        unfold RepD at h1
        rw [h1.1, litsOf_spec hl h2]
    · cases h
theorem op_agg_lits {x : Operand} {als : List A} {us : List Value} {R : List Loc} (hx : opA st x = .agg als) (hl : litsOf als = some us) (hR : ∀ l ∈ locOf x, l ∈ R) {st' : St} (hag : ∀ l ∈ R, st'.at l = st.at l) {cx : Cx} {m : Mp} {S : Nat → Prop} {a : Act} {w : World} (hs : Sim cx m S a w st') : a.eval x = .agg us.toArray := by
  have hr := op_rep hx hR hag hs
  simp only [Rep] at hr
  obtain ⟨vs, h1, h2⟩ := hr
  have := litsOf_spec hl h2
  rw [h1]; congr 1
  apply Array.ext'; simpa using this
theorem op_neq_struct {t u : TypeId} {x y : Operand} {la lb : List A} {us vs : List Value} {r : Bool} (ho : o.op = .binOp .neq t x y u) (hx : opA st x = .agg la) (hy : opA st y = .agg lb) (h1 : litsOf la = some us) (h2 : litsOf lb = some vs) (h : structEq P t us vs = some r) : OpRun P o st (locsOf [x, y]) (.d (.lit (.bool (!r)))) [] := by
  refine .pure fun st' hag cx m S a w hs => ⟨.bool (!r), ?_, by simp only [Rep]; unfold RepD; exact ⟨rfl, rfl⟩⟩
  have e1 := op_agg_lits hx h1 (R := locsOf [x, y]) (fun l h => by simp [locsOf, h]) hag hs
  have e2 := op_agg_lits hy h2 (R := locsOf [x, y]) (fun l h => by simp [locsOf, h]) hag hs
  have k := structEq_spec h w
  simp only [execOp, ho, e1, e2, Sem.run_bind, run_eqGuard_agg w _ _ _ _ _ _ k.2, Result.andThen_ok, run_neq_struct, k.1]
  simp
end
/-! ### from a contract to a law -/
theorem law_join {P : Program} {f : FuncId} {args : List A} {W : World} {vs : List Value} (h : GCall P f args [] (.d (.lit (.bool true))) []) (hr : Reps (fun _ => none) (fun b => b < W.heap.size) W args vs) (hg : GW (fun b => b < W.heap.size) W := by exact fun _ _ h => nomatch h) : Calls P f vs.toArray W fun e W' => ∃ v, e = .returned v ∧ Below W.heap.size W W' ∧ v = .bool true := by
  refine Calls.mono (h (fun _ => none) (fun b => b < W.heap.size) W vs hg (fun _ h => h) ?_ hr) fun e w' ⟨v, m', S', he, h1, h2⟩ => ⟨v, he, ⟨h1.os, h1.tape, h1.output, h1.size, fun k hk => h1.old k hk fun ⟨id, p, hp, _⟩ => by cases hp⟩, ?_⟩
  · exact ⟨rfl, rfl, rfl, Nat.le_refl _, fun _ _ _ => rfl, fun _ h => h, fun b hb => ⟨.inl hb, hb⟩, fun id p b hp => (by cases hp), fun id id' p p' b _ hp => (by cases hp), fun id => rfl, Le.refl _⟩
  · simp only [Rep] at h2; unfold RepD at h2; exact h2.1
end Go.Proofs.Ytcpageegmpjkiaa.K

namespace Go.Proofs.Ytcpageegmpjkiaa.K
open Go.ChangeShapes Go.WideShapes Go.ChangeAt Go.RowKit

/-- These cells are data of this type. -/
inductive TD (P : Program) : TypeId → List D → Prop
  | bool {t : TypeId} (h : P.underlying t = some .bool) (b : Bool) : TD P t [.lit (.bool b)]
  | int {t : TypeId} {k : IntKind} (h : P.underlying t = some (.int k)) (n : Int) (hw : (Lit.int k n).wf = true) : TD P t [.lit (.int k n)]
  | str {t : TypeId} (h : P.underlying t = some .string) (s : ByteArray) (hs : s.size ≤ maxLen) : TD P t [.lit (.string s)]
  | slice {t e : TypeId} (h : P.underlying t = some (.slice e)) (rows : List (List D)) (hn : rows.length ≤ maxLen) (hr : ∀ r ∈ rows, TD P e r) : TD P t [.sl rows.length rows.flatten]
  | struct {t : TypeId} {fs : Array Field} (h : P.underlying t = some (.struct fs)) (parts : List (List D)) (hl : parts.length = fs.toList.length) (hp : ∀ (i : Nat) (f : Field) (p : List D), fs.toList[i]? = some f → parts[i]? = some p → TD P f.type p) : TD P t parts.flatten
  | array {t : TypeId} {n : Nat} {e : TypeId} (h : P.underlying t = some (.array n e)) (parts : List (List D)) (hl : parts.length = n) (hp : ∀ p ∈ parts, TD P e p) : TD P t parts.flatten
def tightF (P : Program) : Nat → List Field → Option Nat
  | off, [] => some off
  | off, f :: fs => match decide (f.offset = off) with | true => tightF P (off + P.cellsOf f.type) fs | false => none
def plainT (P : Program) : Nat → TypeId → Bool
  | 0, _ => false
  | d + 1, t => match P.underlying t with
    | some .bool | some (.int _) | some .string => true
    | some (.slice e) => plainT P d e
    | some (.struct fs) => fs.toList.all (fun f => plainT P d f.type) && decide (tightF P 0 fs.toList = some (P.cellsOf t))
    | some (.array n e) => plainT P d e && decide (P.cellsOf t = n * P.cellsOf e)
    | _ => false
section
variable {S : Nat → Prop} {w : World}
theorem repsD_one {x : D} {v : Value} (h : RepD S w x v) : RepsD S w [x] [v] := ⟨rfl, fun i a b ha hb => by
  match i with
  | 0 => simp only [List.getElem?_cons_zero, Option.some.injEq] at ha hb; subst ha; subst hb; exact h
  | i + 1 => simp at ha⟩
theorem repsD_nil : RepsD S w [] [] := ⟨rfl, fun i a b ha => by simp at ha⟩
theorem repsD_app {xs ys : List D} {vs us : List Value} (h : RepsD S w xs vs) (k : RepsD S w ys us) : RepsD S w (xs ++ ys) (vs ++ us) := by
  refine ⟨by rw [List.length_append, List.length_append, h.1, k.1], fun i x u hx hu => ?_⟩
  rw [List.getElem?_append] at hx hu
  rw [h.1] at hu
  split at hx
  · rename_i hi; rw [if_pos hi] at hu; exact h.2 i x u hx hu
  · rename_i hi; rw [if_neg hi] at hu; exact k.2 _ x u hx hu
theorem reps_of_repsD {m : Mp} : ∀ {xs : List D} {vs : List Value}, RepsD S w xs vs → Reps m S w (xs.map A.d) vs
  | [], vs, h => by simp only [List.map_nil, Reps]; exact List.length_eq_zero_iff.1 h.1
  | x :: xs, [], h => by have := h.1; simp at this
  | x :: xs, v :: vs, h => by
    simp only [List.map_cons, Reps]
    exact ⟨v, vs, rfl, by simp only [Rep]; exact h.2 0 x v rfl rfl, reps_of_repsD ⟨by have := h.1; simpa using this, fun i a b ha hb => h.2 (i + 1) a b (by simpa using ha) (by simpa using hb)⟩⟩
end
theorem flat_uniform {α : Type} {k : Nat} : ∀ {rows : List (List α)}, (∀ r ∈ rows, r.length = k) → ∀ {j : Nat} {c : α}, rows.flatten[j]? = some c → ∃ (i r : Nat) (row : List α), rows[i]? = some row ∧ row[r]? = some c ∧ r < k ∧ j = i * k + r
  | [], _, j, c, h => by simp at h
  | row :: rows, hk, j, c, h => by
    rw [List.flatten_cons, List.getElem?_append] at h
    have hl := hk row (by simp)
    split at h
    · next hj => exact ⟨0, j, row, rfl, h, by omega, by omega⟩
    · next hj =>
      obtain ⟨i, r, row', h1, h2, h3, h4⟩ := flat_uniform (fun r hr => hk r (by simp [hr])) h
      refine ⟨i + 1, r, row', by simpa using h1, h2, h3, ?_⟩
      rw [Nat.add_mul]; omega
theorem cells_each {w : World} {a : Addr} {n : Nat} {cs : List Value} (h : w.cells? 0 a n = some cs) : cs.length = n ∧ ∀ i u, cs[i]? = some u → w.cell? (a.add i) = some u := by
  unfold World.cells? at h
  rw [if_pos (Nat.zero_le _)] at h
  have hl := mapM_some_length h
  rw [List.length_range] at hl
  refine ⟨hl, fun i u hu => ?_⟩
  have hi : i < n := by rw [← hl]; exact (List.getElem?_eq_some_iff.1 hu).1
  have := mapM_some_get h i i (by simp [hi])
  rw [this]; exact hu
section
variable {H : Type} {enc : TypeId × Value → H} {P : Program} {W : World}
/-- What is opened at one place. -/
def Opened (P : Program) (W : World) (t : TypeId) (cs : List Value) : Prop := ∃ ds, TD P t ds ∧ RepsD (fun b => b < W.heap.size) W ds cs ∧ ∀ c ∈ cs, c.oneCell' = true
theorem parts_array {e : TypeId} {k : Nat} {cs : List Value} : ∀ (m i : Nat), (∀ j, i ≤ j → j < i + m → Opened P W e ((cs.drop (j * k)).take k)) → cs.length = (i + m) * k →
    ∃ parts : List (List D), parts.length = m ∧ (∀ p ∈ parts, TD P e p) ∧ RepsD (fun b => b < W.heap.size) W parts.flatten (cs.drop (i * k)) ∧ ∀ c ∈ cs.drop (i * k), c.oneCell' = true
  | 0, i, _, hl => ⟨[], rfl, by simp, by rw [List.drop_of_length_le (by rw [hl]; simp)]; exact repsD_nil, by rw [List.drop_of_length_le (by rw [hl]; simp)]; simp⟩
  | m + 1, i, h, hl => by
    obtain ⟨ds, h1, h2, h3⟩ := h i (Nat.le_refl _) (by omega)
    obtain ⟨parts, q1, q2, q3, q4⟩ := parts_array m (i + 1) (fun j hj hj2 => h j (by omega) (by omega)) (by rw [hl]; congr 1; omega)
    have e1 : cs.drop (i * k) = (cs.drop (i * k)).take k ++ cs.drop ((i + 1) * k) := by
      rw [show (i + 1) * k = i * k + k by rw [Nat.add_mul]; omega, ← List.drop_drop, List.take_append_drop]
    refine ⟨ds :: parts, by simp [q1], fun p hp => ?_, ?_, fun c hc => ?_⟩
    · rcases List.mem_cons.1 hp with rfl | hp
      · exact h1
      · exact q2 p hp
    · rw [e1, List.flatten_cons]; exact repsD_app h2 q3
    · rw [e1] at hc
      rcases List.mem_append.1 hc with hc | hc
      · exact h3 c hc
      · exact q4 c hc
theorem parts_struct {cs : List Value} : ∀ (fs : List Field) (off : Nat), tightF P off fs = some cs.length → (∀ f ∈ fs, Opened P W f.type ((cs.drop f.offset).take (P.cellsOf f.type))) →
    ∃ parts : List (List D), parts.length = fs.length ∧ (∀ (i : Nat) (f : Field) (p : List D), fs[i]? = some f → parts[i]? = some p → TD P f.type p) ∧ RepsD (fun b => b < W.heap.size) W parts.flatten (cs.drop off) ∧ ∀ c ∈ cs.drop off, c.oneCell' = true
  | [], off, ht, _ => by
    unfold tightF at ht; cases ht
    exact ⟨[], rfl, fun i f p h => by simp at h, by rw [List.drop_length]; exact repsD_nil, by rw [List.drop_length]; simp⟩
  | f :: fs, off, ht, h => by
    unfold tightF at ht
    split at ht
    · next ho =>
      have ho := of_decide_eq_true ho
      obtain ⟨ds, h1, h2, h3⟩ := h f (by simp)
      obtain ⟨parts, q1, q2, q3, q4⟩ := parts_struct fs _ ht fun g hg => h g (by simp [hg])
      rw [ho] at h2 h3
      have e1 : cs.drop off = (cs.drop off).take (P.cellsOf f.type) ++ cs.drop (off + P.cellsOf f.type) := by rw [← List.drop_drop, List.take_append_drop]
      refine ⟨ds :: parts, by simp [q1], fun i g p hg hp => ?_, ?_, fun c hc => ?_⟩
      · match i with
        | 0 => simp only [List.getElem?_cons_zero, Option.some.injEq] at hg hp; subst hg; subst hp; exact h1
        | i + 1 => exact q2 i g p (by simpa using hg) (by simpa using hp)
      · rw [e1, List.flatten_cons]; exact repsD_app h2 q3
      · rw [e1] at hc
        rcases List.mem_append.1 hc with hc | hc
        · exact h3 c hc
        · exact q4 c hc
    · cases ht
theorem td_open : ∀ (d : Nat) {t : TypeId}, plainT P d t = true → ∀ {fuel : Nat} {cs : List Value} {x : DataW H × List MemPlace}, DataW.trod enc P W 0 (fun _ => true) true fuel t cs = some x → Opened P W t cs
  | 0, t, hp, _, _, _, _ => by cases hp
  | d + 1, t, hp, fuel, cs, x, h => by
    unfold plainT at hp
    split at hp
    · next hu => obtain ⟨b, rfl, _⟩ := DataW.trod_bool hu h; exact ⟨_, .bool hu b, repsD_one (by unfold RepD; exact ⟨rfl, rfl⟩), fun c hc => by simp at hc; subst hc; rfl⟩
    · next k hu => obtain ⟨n, rfl, _, hw⟩ := DataW.trod_int hu h; exact ⟨_, .int hu n hw, repsD_one (by unfold RepD; exact ⟨rfl, rfl⟩), fun c hc => by simp at hc; subst hc; rfl⟩
    · next hu => obtain ⟨s, rfl, _, hs⟩ := DataW.trod_string hu h; exact ⟨_, .str hu s hs, repsD_one (by unfold RepD; exact ⟨rfl, rfl⟩), fun c hc => by simp at hc; subst hc; rfl⟩
    · next e hu =>
      rcases DataW.trod_slice hu h with ⟨rfl, _⟩ | ⟨a, len, cap, elems, rest, n, _, rfl, _, _, hl, hm, hlen, hel, _, _⟩
      · exact ⟨_, .slice hu [] (by simp) (by simp), repsD_one (by unfold RepD; exact ⟨none, 0, rfl, Nat.le_refl _, Nat.zero_le _, fun _ => ⟨rfl, rfl⟩, by simp only [List.flatten_nil, RepDs]⟩), fun c hc => by simp at hc; subst hc; rfl⟩
      · have each : ∀ i : Nat, ∃ r : List D, i < len → TD P e r ∧ r.length = P.cellsOf e ∧ ∀ j y, r[j]? = some y → ∃ u, W.cell? (a.add (i * P.cellsOf e + j)) = some u ∧ u.oneCell' = true ∧ RepD (fun b => b < W.heap.size) W y u := by
          intro i
          by_cases hi : i < len
          · have h1 := hel i hi
            rw [List.getElem?_eq_getElem (by omega), Option.bind_eq_some_iff] at h1
            obtain ⟨ci, hci, hti⟩ := h1
            obtain ⟨ds, k1, k2, k3⟩ := td_open d hp hti
            obtain ⟨c1, c2⟩ := cells_each hci
            refine ⟨ds, fun _ => ⟨k1, by rw [← k2.1, c1], fun j y hy => ?_⟩⟩
            have hj : j < ci.length := by rw [k2.1]; exact (List.getElem?_eq_some_iff.1 hy).1
            have h5 := c2 j _ (List.getElem?_eq_getElem hj)
            rw [Addr.add_add] at h5
            exact ⟨_, h5, k3 _ (List.getElem_mem hj), k2.2 j y _ hy (List.getElem?_eq_getElem hj)⟩
          · exact ⟨[], fun hh => absurd hh hi⟩
        obtain ⟨g, hg⟩ := Classical.axiomOfChoice each
        have hrl : ((List.range len).map g).length = len := by simp
        have hmem : ∀ r ∈ (List.range len).map g, ∃ i, i < len ∧ g i = r := fun r hr => by
          obtain ⟨i, hi, rfl⟩ := List.mem_map.1 hr
          exact ⟨i, List.mem_range.1 hi, rfl⟩
        have ht := TD.slice hu ((List.range len).map g) (by rw [hrl]; omega) fun r hr => by
          obtain ⟨i, hi, rfl⟩ := hmem r hr
          exact (hg i hi).1
        rw [hrl] at ht
        refine ⟨_, ht, repsD_one ?_, fun c hc => by simp at hc; subst hc; rfl⟩
        unfold RepD
        refine ⟨some a, cap, rfl, hl, hm, fun hh => (by cases hh), RepDs.of _ _ _ fun j c hc => ?_⟩
        obtain ⟨i, r, row, h1, h2, h3, rfl⟩ := flat_uniform (k := P.cellsOf e) (fun r hr => by obtain ⟨i, hi, rfl⟩ := hmem r hr; exact (hg i hi).2.1) hc
        have hi : i < len := by have := (List.getElem?_eq_some_iff.1 h1).1; rw [hrl] at this; exact this
        rw [List.getElem?_map, List.getElem?_range hi] at h1
        cases h1
        obtain ⟨u, h5, h6, h7⟩ := (hg i hi).2.2 r c h2
        refine ⟨a, u, rfl, by rw [Nat.zero_add]; exact h5, ?_, h6, h7⟩
        have := World.block_lt_of_cell? W _ h5
        rw [add_block] at this; exact this
    · next fs hu =>
      rw [Bool.and_eq_true, List.all_eq_true] at hp
      obtain ⟨xs, n, rfl, rfl, hl, hlen, hf⟩ := DataW.trod_struct hu h
      have ht := of_decide_eq_true hp.2
      rw [← hl] at ht
      obtain ⟨parts, q1, q2, q3, q4⟩ := parts_struct (W := W) (cs := cs) fs.toList 0 ht fun f hm => by
        obtain ⟨i, hi⟩ := List.getElem?_of_mem hm
        have h1 := hf i f (by simpa using hi)
        have hlt : i < xs.length := by rw [hlen]; have := (List.getElem?_eq_some_iff.1 hi).1; simpa using this
        rw [List.getElem?_eq_getElem hlt] at h1
        exact td_open d (hp.1 f hm) h1
      exact ⟨_, .struct hu parts q1 q2, q3, q4⟩
    · next n e hu =>
      rw [Bool.and_eq_true] at hp
      obtain ⟨xs, m, rfl, rfl, hl, hlen, hf⟩ := DataW.trod_array hu h
      obtain ⟨parts, q1, q2, q3, q4⟩ := parts_array (P := P) (W := W) (e := e) (k := P.cellsOf e) (cs := cs) n 0 (fun j _ hj => by
        have h1 := hf j (by omega)
        rw [List.getElem?_eq_getElem (by omega)] at h1
        exact td_open d hp.1 h1) (by rw [hl, of_decide_eq_true hp.2, Nat.zero_add])
      rw [Nat.zero_mul, List.drop_zero] at q3 q4
      exact ⟨_, .array hu parts q1 q2, q3, q4⟩
    · cases hp
theorem reps_nil {m : Mp} {S : Nat → Prop} {w : World} : Reps m S w [] [] := by simp only [Reps]
theorem reps_cons {m : Mp} {S : Nat → Prop} {w : World} {a : A} {as' : List A} {v : Value} {r : List Value} (h : Rep m S w a v) (k : Reps m S w as' r) : Reps m S w (a :: as') (v :: r) := by simp only [Reps]; exact ⟨v, r, rfl, h, k⟩
theorem rep_agg {m : Mp} {S : Nat → Prop} {w : World} {as' : List A} {cs : Array Value} (h : Reps m S w as' cs.toList) : Rep m S w (.agg as') (.agg cs) := by simp only [Rep]; exact ⟨cs, rfl, h⟩
theorem rep_d {m : Mp} {S : Nat → Prop} {w : World} {x : D} {v : Value} (h : RepD S w x v) : Rep m S w (.d x) v := by simp only [Rep]; exact h
/-- A value of one cell; of several. -/
theorem open_one {t : TypeId} {v : Value} {dd : DataW H} {ps : List MemPlace} {base : Nat} {r : Reach} (d : Nat) (hp : plainT P d t = true) (hs : scalarT P t = true) (hv : Value.okWide P W r base t v) (h : DataW.Trod enc P W 0 (fun _ => true) true t v dd ps) : ∃ x, TD P t [x] ∧ RepD (fun b => b < W.heap.size) W x v := by
  obtain ⟨fuel, hf⟩ := h
  obtain ⟨ds, h1, h2, h3⟩ := td_open d hp hf
  cases v with
  | agg cs =>
    exfalso
    have : Cell.okWide P W r base t (.agg cs) := by
      unfold Value.okWide at hv
      unfold scalarT at hs
      split at hv
      · next hu => rw [hu] at hs; cases hs
      · next hu => rw [hu] at hs; cases hs
      · exact hv
    unfold Cell.okWide at this
    unfold scalarT at hs
    split at this <;> simp_all [Cell.ok]
  | _ =>
    simp only [Value.cells] at h2
    match ds, h2 with
    | [x], h2 => exact ⟨x, h1, h2.2 0 x _ rfl rfl⟩
theorem open_agg {t : TypeId} {v : Value} {dd : DataW H} {ps : List MemPlace} {base : Nat} {r : Reach} (d : Nat) (hp : plainT P d t = true) (hs : (aggSize P t).isSome = true) (hv : Value.okWide P W r base t v) (h : DataW.Trod enc P W 0 (fun _ => true) true t v dd ps) : ∃ ds cs, v = .agg cs ∧ TD P t ds ∧ RepsD (fun b => b < W.heap.size) W ds cs.toList := by
  obtain ⟨fuel, hf⟩ := h
  obtain ⟨ds, h1, h2, h3⟩ := td_open d hp hf
  have : ∃ cs, v = .agg cs := by
    unfold Value.okWide at hv
    unfold aggSize at hs
    split at hv
    · exact ⟨_, hv.choose_spec.1⟩
    · exact ⟨_, hv.choose_spec.1⟩
    · exfalso
      split at hs <;> simp_all
  obtain ⟨cs, rfl⟩ := this
  exact ⟨ds, cs, rfl, h1, h2⟩
end
section
variable {P : Program} {t : TypeId} {ds : List D}
theorem TD.of_int {k : IntKind} (hu : P.underlying t = some (.int k)) (h : TD P t ds) : ∃ n, ds = [.lit (.int k n)] ∧ (Lit.int k n).wf = true := by
  cases h with
  | int h n hw => rw [hu] at h; cases h; exact ⟨n, rfl, hw⟩
  | _ h => rw [hu] at h; cases h
theorem rows_enc {α : Type} {enc : α → List D} {Q : α → Prop} : ∀ {rows : List (List D)}, (∀ r ∈ rows, ∃ x, r = enc x ∧ Q x) → ∃ l : List α, rows = l.map enc ∧ ∀ x ∈ l, Q x
  | [], _ => ⟨[], rfl, by simp⟩
  | r :: rows, h => by
    obtain ⟨x, rfl, hx⟩ := h r (by simp)
    obtain ⟨l, rfl, hl⟩ := rows_enc (rows := rows) fun r hr => h r (List.mem_cons_of_mem _ hr)
    refine ⟨x :: l, rfl, fun y hy => ?_⟩
    rcases List.mem_cons.1 hy with rfl | hy
    · exact hx
    · exact hl y hy
theorem TD.of_slice {α : Type} {enc : α → List D} {Q : α → Prop} {e : TypeId} (hu : P.underlying t = some (.slice e)) (he : ∀ {r}, TD P e r → ∃ x, r = enc x ∧ Q x) (h : TD P t ds) : ∃ l : List α, ds = [.sl l.length (flatD enc l)] ∧ l.length ≤ maxLen ∧ ∀ x ∈ l, Q x := by
  cases h with
  | slice h rows hn hr =>
    rw [hu] at h; cases h
    obtain ⟨l, rfl, hl⟩ := rows_enc fun r hm => he (hr r hm)
    exact ⟨l, by rw [List.length_map, ← List.flatMap_def]; rfl, by simpa using hn, hl⟩
  | _ h => rw [hu] at h; cases h
def TDs (P : Program) : List Field → List D → Prop
  | [], ds => ds = []
  | f :: fs, ds => ∃ p q, ds = p ++ q ∧ TD P f.type p ∧ TDs P fs q
theorem tds_of : ∀ {fs : List Field} {parts : List (List D)}, parts.length = fs.length → (∀ (i : Nat) (f : Field) (p : List D), fs[i]? = some f → parts[i]? = some p → TD P f.type p) → TDs P fs parts.flatten
  | [], [], _, _ => rfl
  | f :: fs, p :: parts, hl, h => ⟨p, parts.flatten, rfl, h 0 f p rfl rfl, tds_of (by simpa using hl) fun i g q hg hq => h (i + 1) g q (by simpa using hg) (by simpa using hq)⟩
theorem TD.of_struct {fs : Array Field} (hu : P.underlying t = some (.struct fs)) (h : TD P t ds) : TDs P fs.toList ds := by
  cases h with
  | struct h parts hl hp => rw [hu] at h; cases h; exact tds_of hl hp
  | _ h => rw [hu] at h; cases h
theorem TD.of_array {α : Type} {enc : α → List D} {Q : α → Prop} {n : Nat} {e : TypeId} (hu : P.underlying t = some (.array n e)) (he : ∀ {r}, TD P e r → ∃ x, r = enc x ∧ Q x) (h : TD P t ds) : ∃ l : List α, ds = flatD enc l ∧ l.length = n ∧ ∀ x ∈ l, Q x := by
  cases h with
  | array h parts hl hr =>
    rw [hu] at h; cases h
    obtain ⟨l, rfl, hq⟩ := rows_enc fun r hm => he (hr r hm)
    exact ⟨l, by rw [← List.flatMap_def]; rfl, by simpa using hl, hq⟩
  | _ h => rw [hu] at h; cases h
end
end Go.Proofs.Ytcpageegmpjkiaa.K

namespace Go.Proofs.Ytcpageegmpjkiaa.K
open Go.RowKit Go.Lib

/-- Short names for what stands in states. -/
abbrev A.i (n : Int) : A := .d (.lit (.int .i64 n))
abbrev A.y (b : UInt8) : A := .d (byteD b)
abbrev A.b (b : Bool) : A := .d (.lit (.bool b))
/-! ### what models are made of -/
/-- An element, by a whole number. -/
def geti {α : Type} (l : List α) (i : Int) : Option α := if 0 ≤ i then l[i.toNat]? else none
/-- Two lists side by side, if they are not too long. -/
def app {α : Type} (l r : List α) : Option (List α) := if l.length + r.length ≤ 1000000000 then some (l ++ r) else none
/-- The part from a up to b. -/
def cut {α : Type} (l : List α) (a b : Int) : Option (List α) := if 0 ≤ a ∧ a ≤ b ∧ b ≤ (l.length : Int) then some ((l.drop a.toNat).take (b.toNat - a.toNat)) else none
/-- r laid over the begin of l. -/
def cpy {α : Type} (l r : List α) : Option (List α) := if r.length ≤ l.length then some (r ++ l.drop r.length) else none
def mkl {α : Type} (n : Int) (z : α) : Option (List α) := if 0 ≤ n ∧ n ≤ 1000000000 then some (List.replicate n.toNat z) else none
def chk {α : Type} (p : Prop) [Decidable p] (x : Option α) : Option α := if p then x else none
def toS (l : List UInt8) : ByteArray := ⟨l.toArray⟩
abbrev A.s (l : List UInt8) : A := .d (.lit (.string (toS l)))
abbrev A.l {α : Type} (enc : α → List D) (l : List α) : A := .d (.sl l.length (flatD enc l))
section
variable {α β : Type} {r : β}
theorem bnd {a : Option α} {f : α → Option β} (h : Option.bind a f = some r) : ∃ x, a = some x ∧ f x = some r := by
  cases a with
  | none => cases h
  | some x => exact ⟨x, rfl, h⟩
theorem cT {b : Bool} {x y : Option β} (hb : b = true) (h : cond b x y = some r) : x = some r := by rw [hb] at h; exact h
theorem cF {b : Bool} {x y : Option β} (hb : b = false) (h : cond b x y = some r) : y = some r := by rw [hb] at h; exact h
theorem tf_ (b : Bool) : b = true ∨ b = false := by cases b <;> simp
theorem chk_some {p : Prop} [Decidable p] {x : Option β} (h : chk p x = some r) : p ∧ x = some r := by
  unfold chk at h
  split at h
  · exact ⟨‹_›, h⟩
  · cases h
variable {l s : List α} {x : α} {i a b n c : Int}
theorem geti_some (h : geti l i = some x) : i = (i.toNat : Int) ∧ l[i.toNat]? = some x := by
  unfold geti at h
  split at h
  · exact ⟨by omega, h⟩
  · cases h
theorem getlt {k : Nat} (h : l[k]? = some x) : k < l.length := (List.getElem?_eq_some_iff.1 h).1
theorem app_some {x : List α} (h : app l s = some x) : x = l ++ s ∧ l.length + s.length ≤ 1000000000 := by
  unfold app at h
  split at h
  · cases h; exact ⟨rfl, ‹_›⟩
  · cases h
theorem cut_some {x : List α} (h : cut l a b = some x) : a = (a.toNat : Int) ∧ b = (b.toNat : Int) ∧ a.toNat ≤ b.toNat ∧ b.toNat ≤ l.length ∧ x = (l.drop a.toNat).take (b.toNat - a.toNat) := by
  unfold cut at h
  split at h
  · cases h; refine ⟨by omega, by omega, by omega, by omega, rfl⟩
  · cases h
theorem cpy_some {x : List α} (h : cpy l s = some x) : x = s ++ l.drop s.length ∧ s.length ≤ l.length := by
  unfold cpy at h
  split at h
  · cases h; exact ⟨rfl, ‹_›⟩
  · cases h
theorem mk_some {z : α} {x : List α} (h : mkl n z = some x) : n = (n.toNat : Int) ∧ n.toNat ≤ 1000000000 ∧ x = List.replicate n.toNat z := by
  unfold mkl at h
  split at h
  · cases h; exact ⟨by omega, by omega, rfl⟩
  · cases h
theorem nil_app {l r : List α} (hm : (Option.bind (app [] l) fun a => some a) = some r) (h : l = []) : [] = r := by
  subst h
  obtain ⟨x, hx, hm⟩ := bnd hm
  cases hm
  exact (app_some hx).1.symm
end
theorem app_bytes {n k by_ : Nat} (h : n + k ≤ 1000000000) (hb : by_ ≤ 140000) : (n + k) * by_ ≤ 140737488355328 := by
  have := Nat.mul_le_mul h hb; omega
/-! ### typed data as cells -/
def encI (k : IntKind) (n : Int) : List D := [.lit (.int k n)]
def encU8 (b : UInt8) : List D := [byteD b]
def encL {α : Type} (enc : α → List D) (l : List α) : List D := [.sl l.length (flatD enc l)]
theorem encI_len {k : IntKind} (n : Int) : (encI k n).length = 1 := rfl
theorem encL_len {α : Type} {enc : α → List D} (l : List α) : (encL enc l).length = 1 := rfl
theorem flat_plain {α : Type} {enc : α → List D} (h : ∀ a, ∀ d ∈ enc a, d.Plain) {e sz n : Nat} {l : List α} : (Blk.arr e sz n (flatD enc l)).Plain := by
  show ∀ x ∈ flatD enc l, x.Plain
  intro x hx
  obtain ⟨a, _, h2⟩ := List.mem_flatMap.1 hx
  exact h a x h2
theorem plain_nil : ∀ b ∈ ([] : List Blk), b.Plain := fun b hb => by cases hb
theorem plain_cons {b : Blk} {l : List Blk} (h : b.Plain) (hl : ∀ b ∈ l, b.Plain) : ∀ c ∈ b :: l, c.Plain := fun c hc => by
  rcases List.mem_cons.1 hc with rfl | hc
  · exact h
  · exact hl c hc
theorem lit_tf {b c : Bool} (h : b = c) : A.d (.lit (.bool b)) = .d (.lit (.bool c)) := by rw [h]
section
variable {α : Type} {enc : α → List D} {sz : Nat} {l : List α} {i k : Nat} {x y : α} {cs : List D}
theorem flat_split (h : ∀ a, (enc a).length = sz) (hx : l[i]? = some x) : flatD enc l = flatD enc (l.take i) ++ (enc x ++ flatD enc (l.drop (i + 1))) ∧ (flatD enc (l.take i)).length = i * sz := by
  have hi := getlt hx
  have e : l = l.take i ++ (x :: l.drop (i + 1)) := by
    conv => lhs; rw [← List.take_append_drop i l, List.drop_eq_getElem_cons hi]
    rw [(List.getElem?_eq_some_iff.1 hx).2]
  refine ⟨?_, by rw [flatD_length h, List.length_take, Nat.min_eq_left (by omega)]⟩
  conv => lhs; rw [e]
  rw [flatD_append, flatD_cons]
theorem flat_fitk (h : ∀ a, (enc a).length = sz) (hi : i < l.length) (hk : k + cs.length ≤ sz) : i * sz + k + cs.length ≤ (flatD enc l).length := by
  rw [flatD_length h]
  have := Nat.mul_le_mul_right sz (show i + 1 ≤ l.length from hi)
  rw [Nat.add_mul] at this; omega
theorem flat_setk (h : ∀ a, (enc a).length = sz) (hx : l[i]? = some x) (hy : putC (enc x) k cs = enc y) (hk : k + cs.length ≤ sz) : putC (flatD enc l) (i * sz + k) cs = flatD enc (l.set i y) := by
  obtain ⟨e, hl⟩ := flat_split h hx
  have hi := getlt hx
  have e2 : l.set i y = l.take i ++ (y :: l.drop (i + 1)) := by rw [List.set_eq_take_append_cons_drop, if_pos hi]
  rw [e2, flatD_append, flatD_cons, ← hy, e]
  have hxl := h x
  generalize flatD enc (l.take i) = a at hl ⊢
  generalize flatD enc (l.drop (i + 1)) = b
  unfold putC
  rw [List.take_append, List.drop_append, List.take_of_length_le (show a.length ≤ i * sz + k by omega), List.drop_of_length_le (show a.length ≤ i * sz + k + cs.length by omega), List.nil_append, hl]
  rw [show i * sz + k - i * sz = k by omega, show i * sz + k + cs.length - i * sz = k + cs.length by omega, List.take_append_of_le_length (by omega), List.drop_append_of_le_length (by omega)]
  simp only [List.append_assoc]
theorem flat_rep {zs : List D} {n : Nat} (h : zs = enc x) : (List.replicate n zs).flatten = flatD enc (List.replicate n x) := by
  subst h
  rw [flatD, List.flatMap, List.map_replicate]
theorem flat_cut (h : ∀ a, (enc a).length = sz) {a b : Nat} : ((flatD enc l).drop (a * sz)).take ((b - a) * sz) = flatD enc ((l.drop a).take (b - a)) := by
  rw [flat_dropL h, flat_take h]
variable {r z : List α}
theorem cpy_len (e : z = r ++ l.drop r.length) (h : r.length ≤ l.length) : l.length = z.length := by rw [e]; simp; omega
theorem cpy_put (h : ∀ a, (enc a).length = sz) (hl : r.length ≤ l.length) : putC (flatD enc l) 0 (flatD enc r) = flatD enc (r ++ l.drop r.length) := by
  unfold putC
  rw [flatD_append, List.take_zero, List.nil_append, Nat.zero_add, flatD_length h, flat_dropL h]
theorem cpy_fit (h : ∀ a, (enc a).length = sz) (hl : r.length ≤ l.length) : 0 + (flatD enc r).length ≤ (flatD enc l).length := by
  rw [flatD_length h, flatD_length h]
  have := Nat.mul_le_mul_right sz hl; omega
theorem cut_len0 {b : Int} (e : z = (l.drop (Int.toNat 0)).take (b.toNat - Int.toNat 0)) (h : b.toNat ≤ l.length) : b.toNat = z.length := by
  rw [e]
  rw [List.length_take, List.length_drop]
  simp; omega
theorem cut_take0 (h : ∀ a, (enc a).length = sz) {b : Int} (e : z = (l.drop (Int.toNat 0)).take (b.toNat - Int.toNat 0)) : (flatD enc l).take (b.toNat * sz) = flatD enc z := by
  rw [e, flat_take h]
  congr 1
end
end Go.Proofs.Ytcpageegmpjkiaa.K

namespace Go.Proofs.Ytcpageegmpjkiaa.K
open Go.RowKit Go.Lib

section
variable {P : Program} {K : Exit → St → Prop} {b c : Code} {st : St}
/-- Ways that meet: what is behind is walked once. -/
theorem AWP.cutJ {α : Type} (S : α → St) (I : α → Prop) (hb : ∀ x, I x → AWP P K b (S x)) (h : (∀ x, I x → AWP P K b (S x)) → AWP P K (.seq c b) st) : AWP P K (.seq c b) st := h hb
theorem Rounds.to_ {n : Nat} {st' : St} (e : st = st') (h : Rounds P K c n st') : Rounds P K c n st := e ▸ h
end
/-- Own rows are frozen; nil stays nil. -/
def Blk.viewN (H : List Blk) (vids : List Nat) : Blk → Blk
  | .box xs => .box (A.views H vids xs)
  | b => b
def frzN (H : List Blk) (vids : List Nat) : List Blk → Nat → List Blk
  | [], _ => []
  | b :: l, k => (match inB vids k with | true => b.frz | false => b.viewN H vids) :: frzN H vids l (k + 1)
theorem frzN_get {H : List Blk} {vids : List Nat} : ∀ (l : List Blk) (k j : Nat), (frzN H vids l k).getD j .unborn = if (k + j) ∈ vids then (l.getD j .unborn).frz else (l.getD j .unborn).viewN H vids
  | [], k, j => by simp only [frzN, List.getD_nil]; split <;> rfl
  | b :: l, k, 0 => by
    simp only [frzN, List.getD_cons_zero, Nat.add_zero]
    cases h : inB vids k with
    | true => rw [if_pos (inB_iff.1 h)]
    | false => rw [if_neg (fun hm => by rw [inB_iff.2 hm] at h; cases h)]
  | b :: l, k, j + 1 => by
    simp only [frzN, List.getD_cons_succ]
    rw [frzN_get l (k + 1) j, show k + 1 + j = k + (j + 1) by omega]
theorem Weak.frz {st : St} (vids : List Nat) : Weak st ⟨A.views st.H vids st.env, frzN st.H vids st.H 0, st.k⟩ := by
  intro cx m S a w hs
  have hf := hs.hold.freeze (vids := vids) (H' := putB st.H (vids.map fun id => (id, (st.H.getD id .unborn).frz))) fun k => by
    rw [getD_putB, lastB_frz]
    by_cases hk : k ∈ vids <;> simp [hk]
  have hle := fzm_le hs.hold vids
  refine ⟨fzm m st.H vids, SV' m S vids, ⟨⟨hf.os, hf.tape, hf.output, hf.size, hf.old, hf.s0, hf.s, hf.pl, hf.apart, fun j => ?_, hf.le⟩, Reps.mono hle (fun _ h => h) (Keeps.refl _ w) _ _ (Reps.view hs.hold _ _ hs.env), hs.df, hs.pre⟩⟩
  have hj := hf.ok j
  rw [getD_putB, lastB_frz] at hj
  simp only [] at hj ⊢
  rw [frzN_get, Nat.zero_add]
  by_cases hk : j ∈ vids
  · rw [if_pos hk] at hj ⊢; exact hj
  · rw [if_neg hk] at hj ⊢
    simp only [Option.getD_none] at hj
    cases hb : st.H.getD j .unborn with
    | box xs =>
      rw [hb] at hj
      obtain ⟨b, cells, T, k1, k2, k3, k4, k5⟩ := hj
      have hok := hs.hold.ok j
      rw [hb] at hok
      obtain ⟨b0, cells0, T0, j1, j2, j3, _⟩ := hok
      have hi : inB vids j = false := by
        cases hi : inB vids j with
        | false => rfl
        | true => exact absurd (inB_iff.1 hi) hk
      have e1 : m j = some (.box b) := by simpa only [fzm, hi] using k1
      rw [j1] at e1; cases e1
      rw [j2] at k2; cases k2
      exact ⟨b, cells, T, k1, j2, Reps.mono hle (fun _ h => h) (Keeps.refl _ w) _ _ (Reps.view hs.hold _ _ j3), k4, k5⟩
    | unborn => rw [hb] at hj; exact hj
    | gone => rw [hb] at hj; exact hj
    | arr e sz n xs => rw [hb] at hj; exact hj
    | fro e sz n xs => rw [hb] at hj; exact hj
    | rows e sz n xs => rw [hb] at hj; exact hj
    | mp ks cs => rw [hb] at hj; exact hj

/-- Slot by slot: nothing known, the same under other names, or nil as an empty slice. -/
def wkM (ids : List Nat) : List A → List A → Prop
  | [], [] => True
  | x :: xs, y :: ys => (x = .top ∨ x.ren ids = some y ∨ x.ren ids = some y.nn) ∧ wkM ids xs ys
  | _, _ => False
theorem wkM_reps {ids : List Nat} {m : Mp} {S : Nat → Prop} {w : World} : ∀ {xs ys : List A} {vs : List Value}, wkM ids xs ys → Reps m S w ys vs → Reps (via ids m) S w xs vs
  | [], [], vs, _, h => by simp only [Reps] at h ⊢; exact h
  | x :: xs, y :: ys, vs, hw, h => by
    simp only [Reps] at h ⊢
    obtain ⟨v, r, rfl, h1, h2⟩ := h
    refine ⟨v, r, rfl, ?_, wkM_reps hw.2 h2⟩
    rcases hw.1 with rfl | he | he
    · simp only [Rep]
    · exact (Rep.via x y v he).2 h1
    · exact (Rep.via x y.nn v he).2 (Rep.nn y v h1)
  | [], _ :: _, _, hw, _ => hw.elim
  | _ :: _, [], _, hw, _ => hw.elim
def wkC (ids : List Nat) : Blk → Blk → Prop
  | .box xs, .box ys => wkM ids xs ys
  | b, b' => b.ren ids = some b'
theorem wkC_ok {ids : List Nat} {m : Mp} {S : Nat → Prop} {w : World} {j k : Nat} {b b' : Blk} (hk : ids[j]? = some k) (hw : wkC ids b b') (h : BlkOK m S w k b') : BlkOK (via ids m) S w j b := by
  have gen : b.ren ids = some b' → BlkOK (via ids m) S w j b := fun hr => (BlkOK.via hk hr).2 h
  cases b with
  | box xs =>
    cases b' with
    | box ys =>
      obtain ⟨b, cells, T, h1, h2, h3, h4, h5⟩ := h
      exact ⟨b, cells, T, by simp [K.via, hk, h1], h2, wkM_reps hw h3, h4, h5⟩
    | _ => exact gen hw
  | _ => exact gen hw
def wkCs (ids : List Nat) (H : List Blk) : List Nat → List Blk → Prop
  | [], [] => True
  | i :: is, b :: bs => wkC ids b (H.getD i .unborn) ∧ wkCs ids H is bs
  | _, _ => False
theorem wkCs_spec {ids : List Nat} {H : List Blk} : ∀ {is : List Nat} {bs : List Blk}, wkCs ids H is bs → is.length = bs.length ∧ ∀ j i, is[j]? = some i → wkC ids (bs.getD j .unborn) (H.getD i .unborn)
  | [], [], _ => ⟨rfl, fun j i h => by simp at h⟩
  | i :: is, b :: bs, h => by
    obtain ⟨h1, h2⟩ := wkCs_spec h.2
    refine ⟨by simp [h1], fun j k hj => ?_⟩
    cases j with
    | zero => simp only [List.getElem?_cons_zero, Option.some.injEq] at hj; subst hj; exact h.1
    | succ j => simpa using h2 j k (by simpa using hj)
  | [], _ :: _, h => h.elim
  | _ :: _, [], h => h.elim
theorem Weak.toN {st st' : St} (ids : List Nat) (hk : st'.k = st.k) (hn' : nodupB ids = true) (hl : ids.length = st'.H.length) (hpre : st.k ≤ ids.length ∧ ids.take st.k = List.range st.k)
    (hH' : wkCs ids st.H ids st'.H) (he : wkM ids st'.env st.env) : Weak st st' := by
  have hn := nodupB_spec hn'
  have hH := (wkCs_spec hH').2
  intro cx m S a w hs
  have h := hs.hold
  refine ⟨via ids m, S, ⟨⟨h.os, h.tape, h.output, h.size, h.old, h.s0, h.s, fun id p b hp hb => ?_, fun id id' p p' b hne hp hp' hb => ?_, fun j => ?_, fun id p hp => ?_⟩, wkM_reps he hs.env, hs.df, by rw [hk]; exact hs.pre⟩⟩
  · obtain ⟨k, _, hk⟩ := via_some hp; exact h.pl k p b hk hb
  · obtain ⟨k, h1, hk⟩ := via_some hp
    obtain ⟨k', h1', hk'⟩ := via_some hp'
    refine h.apart k k' p p' b (fun he => hne ?_) hk hk' hb
    subst he
    exact (List.getElem?_inj (List.getElem?_eq_some_iff.1 h1).1 hn).1 (h1.trans h1'.symm)
  · rcases Nat.lt_or_ge j ids.length with hj | hj
    · have hkj : ids[j]? = some ids[j] := List.getElem?_eq_getElem hj
      exact wkC_ok hkj (hH j _ hkj) (h.ok _)
    · rw [getD_none (by rw [← hl]; exact hj)]
      simp only [BlkOK, K.via, List.getElem?_eq_none hj, Option.bind_none]
  · have hid : id < st.k := by
      rcases Nat.lt_or_ge id st.k with h1 | h1
      · exact h1
      · rw [hs.pre id h1] at hp; cases hp
    have hki : ids[id]? = some id := by
      have : (ids.take st.k)[id]? = some id := by rw [hpre.2, List.getElem?_range hid]
      rwa [List.getElem?_take, if_pos hid] at this
    simp only [K.via, hki, Option.bind_some]
    exact h.le id p hp
/-- A block is let go. -/
def isLive : Blk → Bool
  | .arr .. => true
  | .fro .. => true
  | .box _ => true
  | .rows .. => true
  | .mp .. => true
  | _ => false
theorem Weak.gone {st st' : St} (j : Nat) (hb : isLive (st.H.getD j .unborn) = true) (he : st' = ⟨st.env, st.H.set j .gone, st.k⟩) : Weak st st' := by
  subst he
  intro cx m S a w hs
  have h := hs.hold
  have hj : ∃ p, m j = some p := by
    have hok := h.ok j
    cases hx : st.H.getD j .unborn with
    | unborn => rw [hx] at hb; cases hb
    | gone => rw [hx] at hb; cases hb
    | box xs => rw [hx] at hok; obtain ⟨b, cells, T, h1, _⟩ := hok; exact ⟨_, h1⟩
    | arr e sz n xs => rw [hx] at hok; obtain ⟨v, h1, _⟩ := hok; exact ⟨_, h1⟩
    | fro e sz n xs => rw [hx] at hok; obtain ⟨v, h1, _⟩ := hok; exact ⟨_, h1⟩
    | rows e sz n xs => rw [hx] at hok; obtain ⟨v, h1, _⟩ := hok; exact ⟨_, h1⟩
    | mp ks cs => rw [hx] at hok; obtain ⟨v, _, _, h1, _⟩ := hok; exact ⟨_, h1⟩
  have hlen : j < st.H.length := by
    rcases Nat.lt_or_ge j st.H.length with h1 | h1
    · exact h1
    · rw [getD_none h1] at hb; cases hb
  have hLe : Le m (updM m j .gone) := fun k q hq => by
    by_cases e1 : k = j
    · subst e1; right; simp [updM]
    · left; simpa only [updM, e1, if_false] using hq
  have hne : ∀ i, i ≠ j → updM m j .gone i = m i := fun i hi => by simp only [updM, hi, if_false]
  have hself : updM m j .gone j = some .gone := by simp [updM]
  have blkM : ∀ {id p b}, updM m j .gone id = some p → p.blk = some b → m id = some p := fun {id p b} hp hb => by
    by_cases e1 : id = j
    · subst e1; rw [hself] at hp; cases hp; cases hb
    · rw [hne id e1] at hp; exact hp
  refine ⟨_, S, ⟨⟨h.os, h.tape, h.output, h.size, h.old, h.s0, h.s, fun id p b hp hb => h.pl id p b (blkM hp hb) hb, fun id id' p p' b hd hp hp' hb hb' => h.apart id id' p p' b hd (blkM hp hb) (blkM hp' hb') hb hb', fun i => ?_, h.le.trans hLe⟩,
    Reps.mono hLe (fun _ h => h) (Keeps.refl S w) _ _ hs.env, hs.df, hs.pre⟩⟩
  by_cases hi : i = j
  · subst hi
    rw [show (st.H.set i .gone).getD i .unborn = .gone by simp [List.getD_eq_getElem?_getD, List.getElem?_set, hlen]]
    exact hself
  · rw [show (st.H.set j .gone).getD i .unborn = st.H.getD i .unborn by simp [List.getD_eq_getElem?_getD, List.getElem?_set, Ne.symm hi]]
    exact (h.ok i).mono (hne i hi) hLe (fun _ h => h) (Keeps.refl S w) fun p g _ _ => ⟨rfl, fun h => h⟩
/-- A row takes another number. -/
def wkV (c a : Nat) : List A → List A → Prop
  | [], [] => True
  | x :: xs, y :: ys => (x = y ∨ (x = .own c ∧ y = .own a)) ∧ wkV c a xs ys
  | _, _ => False
def mvL (a c : Nat) : Nat → List Blk → List Blk → Prop
  | j, x :: xs, y :: ys => (j = a ∨ x = y ∨ ∃ p q, x = .box p ∧ y = .box q ∧ wkV c a p q) ∧ mvL a c (j + 1) xs ys
  | _, [_], [] => True
  | _, [], [] => True
  | _, _, _ => False
theorem mvL_spec {a c : Nat} : ∀ {xs ys : List Blk} {j : Nat}, mvL a c j xs ys → ∀ i, i < ys.length → j + i = a ∨ xs.getD i .unborn = ys.getD i .unborn ∨ ∃ p q, xs.getD i .unborn = .box p ∧ ys.getD i .unborn = .box q ∧ wkV c a p q
  | _, [], _, _, i, hi => by simp at hi
  | [], y :: ys, _, h, _, _ => by simp [mvL] at h
  | x :: xs, y :: ys, j, h, i, hi => by
    simp only [mvL] at h
    cases i with
    | zero => simpa using h.1
    | succ i =>
      have := mvL_spec h.2 i (by simpa using hi)
      rw [show j + (i + 1) = j + 1 + i by omega]
      simpa using this
theorem mvL_len {a c : Nat} : ∀ {xs ys : List Blk} {j : Nat}, mvL a c j xs ys → xs.length ≤ ys.length + 1
  | [], [], _, _ => by simp
  | [_], [], _, _ => by simp
  | _ :: _ :: _, [], _, h => by simp [mvL] at h
  | [], _ :: _, _, h => by simp [mvL] at h
  | x :: xs, y :: ys, j, h => by
    simp only [mvL] at h
    have := mvL_len h.2
    simp; omega
theorem Weak.move {st st' : St} (a c : Nat) {e sz n : Nat} {xs : List D} (ha : st.H.getD a .unborn = .arr e sz n xs) (hc : c = st.H.length) (hne : a ≠ c) (hk : st'.k = st.k) (he : wkV c a st'.env st.env)
    (hga : st'.H.getD a .unborn = .gone) (hgc : st'.H.getD c .unborn = .arr e sz n xs) (ho : mvL a c 0 st'.H st.H) : Weak st st' := by
  intro cx m S act w hs
  have h := hs.hold
  have hcu : st.H.getD c .unborn = .unborn := getD_none (by omega)
  have hok := h.ok a
  rw [ha] at hok
  obtain ⟨v, h1, h2, h3⟩ := hok
  have hmc : m c = none := by have := h.ok c; rw [hcu] at this; exact this
  let m' : Mp := fun k => if k = c then some (.arr v) else if k = a then some .gone else m k
  have mc : m' c = some (.arr v) := by simp [m']
  have ma : m' a = some .gone := by simp [m', hne]
  have mo : ∀ i, i ≠ a → i ≠ c → m' i = m i := fun i h1 h2 => by simp [m', h1, h2]
  have hLe : Le m m' := fun k q hq => by
    by_cases e1 : k = c
    · subst e1; rw [hmc] at hq; cases hq
    · by_cases e2 : k = a
      · subst e2; exact .inr ma
      · left; rw [mo k e2 e1]; exact hq
  have back : ∀ {id p b}, m' id = some p → p.blk = some b → (id = c ∧ p = .arr v ∧ m a = some p) ∨ (id ≠ c ∧ id ≠ a ∧ m id = some p) := fun {id p b} hp hb => by
    by_cases e1 : id = c
    · subst e1; rw [mc] at hp; cases hp; exact .inl ⟨rfl, rfl, h1⟩
    · by_cases e2 : id = a
      · subst e2; rw [ma] at hp; cases hp; cases hb
      · rw [mo id e2 e1] at hp; exact .inr ⟨e1, e2, hp⟩
  have hv1 : ∀ {xs ys : List A} {vs : List Value}, wkV c a xs ys → Reps m S w ys vs → Reps m' S w xs vs := by
    intro xs
    induction xs with
    | nil =>
      intro ys vs hw hr
      cases ys with
      | nil => simp only [Reps] at hr ⊢; exact hr
      | cons y ys => exact hw.elim
    | cons x xs ih =>
      intro ys vs hw hr
      cases ys with
      | nil => exact hw.elim
      | cons y ys =>
        simp only [Reps] at hr ⊢
        obtain ⟨u, r, rfl, k1, k2⟩ := hr
        refine ⟨u, r, rfl, ?_, ih hw.2 k2⟩
        rcases hw.1 with rfl | ⟨rfl, rfl⟩
        · exact Rep.mono hLe (fun _ h => h) (Keeps.refl S w) _ _ k1
        · simp only [Rep, h1] at k1
          simp only [Rep, mc]; exact k1
  refine ⟨m', S, ⟨⟨h.os, h.tape, h.output, h.size, h.old, h.s0, h.s, fun id p b hp hb => ?_, fun id id' p p' b hd hp hp' hb hb' => ?_, fun i => ?_, h.le.trans hLe⟩, hv1 he hs.env, hs.df, by rw [hk]; exact hs.pre⟩⟩
  · rcases back hp hb with ⟨_, _, q⟩ | ⟨_, _, q⟩
    · exact h.pl a p b q hb
    · exact h.pl id p b q hb
  · rcases back hp hb with ⟨e1, e2, q⟩ | ⟨e1, e2, q⟩ <;> rcases back hp' hb' with ⟨f1, f2, q'⟩ | ⟨f1, f2, q'⟩
    · exact hd (e1.trans f1.symm)
    · exact h.apart a id' p p' b (Ne.symm f2) q q' hb hb'
    · exact h.apart id a p p' b e2 q q' hb hb'
    · exact h.apart id id' p p' b hd q q' hb hb'
  · by_cases e1 : i = c
    · subst e1
      rw [hgc]
      exact ⟨v, mc, h2, h3⟩
    · by_cases e2 : i = a
      · subst e2; rw [hga]; exact ma
      · have hok := h.ok i
        by_cases hl : i < st.H.length
        · rcases mvL_spec ho i hl with q | q | ⟨p, q, q1, q2, q3⟩
          · exact absurd (by omega) e2
          · rw [q]
            exact hok.mono (mo i e2 e1) hLe (fun _ h => h) (Keeps.refl S w) fun p g _ _ => ⟨rfl, fun h => h⟩
          · rw [q2] at hok
            obtain ⟨b, cells, T, k1, k2, k3, k4, k5⟩ := hok
            rw [q1]
            exact ⟨b, cells, T, by rw [mo i e2 e1]; exact k1, k2, hv1 q3 k3, k4, k5⟩
        · rw [getD_none (by omega)] at hok
          have hlen := mvL_len ho
          rw [getD_none (by omega)]
          exact (mo i e2 e1).trans hok
section
variable {P : Program} {o : Oper} {st : St}
/-- A row is frozen as it is made. -/
theorem OpRun.frzNew {R : List Loc} {val : A} {bl : List (Nat × Blk)} (vids : List Nat) (h : OpRun P o st R val bl) (hv : vids.all (fun i => (lastB bl i).isSome) = true) :
    OpRun P o st R (val.view (putB [] bl) vids) (bl ++ vids.map fun id => (id, ((putB [] bl).getD id .unborn).frz)) := by
  intro st' hl hlen cx m S a w hs
  refine runs_mono (h st' hl hlen cx m S a w hs) fun v w' ⟨m', S', k1, k2, k3, k4, k5⟩ => ?_
  have hs0 : ∀ id ∈ vids, (putB st'.H bl).getD id .unborn = (putB [] bl).getD id .unborn := fun id hid => by
    have := List.all_eq_true.1 hv id hid
    obtain ⟨b, hb⟩ := Option.isSome_iff_exists.1 this
    rw [getD_putB, getD_putB, hb]; rfl
  have hF := k4.freeze (vids := vids) (H' := putB st'.H (bl ++ vids.map fun id => (id, ((putB [] bl).getD id .unborn).frz))) fun k => by
    rw [getD_putB, lastB_append]
    have e : lastB (vids.map fun id => (id, ((putB [] bl).getD id .unborn).frz)) k = if k ∈ vids then some ((putB [] bl).getD k .unborn).frz else none := lastB_frz
    rw [e]
    by_cases hk : k ∈ vids
    · rw [if_pos hk, if_pos hk, Option.some_or, Option.getD_some, hs0 k hk]
    · rw [if_neg hk, if_neg hk, Option.none_or, getD_putB]
  have hle := fzm_le k4 vids
  refine ⟨_, _, k1.trans hle, fun b hb => .inl (k2 b hb), k3, hF, ?_⟩
  have := Rep.view (vids := vids) k4 val v k5
  rw [view_congr hs0] at this
  exact Rep.mono hle (fun _ h => h) (Keeps.refl _ w') _ _ this
theorem op_nilCheckLoc {x : Operand} {id off : Nat} {xs : List A} (ho : o.op = .nilCheck x) (hx : opA st x = .loc id off) (hb : st.H.getD id .unborn = .box xs) : OpRun P o st (locOf x ++ [.blk id]) (.loc id off) [] := by
  refine .pure fun st' hag cx m S a w hs => ?_
  have hr := op_rep hx (R := locOf x ++ [.blk id]) (fun l h => by simp [h]) hag hs
  have hb' : st'.H.getD id .unborn = .box xs := (blk1 (by simp) hag).trans hb
  have hok := hs.hold.ok id
  rw [hb'] at hok
  obtain ⟨b, cells, T, h1, _⟩ := hok
  have hr2 := hr
  simp only [Rep, h1] at hr2
  refine ⟨_, ?_, hr⟩
  rw [hr2]
  simp [execOp, ho, hr2]
/-- A part of a frozen slice. -/
theorem op_cut {α : Type} {t e sz : Nat} {x : Operand} {lo hi : Option Operand} {l y : List α} {enc : α → List D} {a b : Nat} (ho : o.op = .slice t x lo hi none) (he : sliceElem P t = some (e, sz)) (hx : opA st x = .d (.sl l.length (flatD enc l))) (hlen : ∀ a, (enc a).length = sz)
    (hlo : boundA st 0 lo a) (hhi : boundA st l.length hi b) (h1 : a ≤ b) (h2 : b ≤ l.length) (hy : y = (l.drop a).take (b - a)) : OpRun P o st (locsOf (x :: (lo.toList ++ hi.toList))) (.d (.sl y.length (flatD enc y))) [] := by
  refine .pure fun st' hag cx m S act w hs => ?_
  have hr := op_rep hx (R := locsOf (x :: (lo.toList ++ hi.toList))) (fun l h => by simp [locsOf, h]) hag hs
  simp only [Rep] at hr
  unfold RepD at hr
  obtain ⟨p, cap, hv, k2, k3, k4, k5⟩ := hr
  have hlo' : boundV act 0 lo a := by
    cases lo with
    | none => exact hlo
    | some z => obtain ⟨k, v, q1, rfl⟩ := hlo; exact ⟨k, op_lit q1 (R := locsOf (x :: ((some z).toList ++ hi.toList))) (fun l h => by simp [locsOf, h]) hag hs⟩
  have hhi' : boundV act l.length hi b := by
    cases hi with
    | none => exact hhi
    | some z =>
      obtain ⟨k, v, q1, rfl⟩ := hhi
      refine ⟨k, op_lit q1 (R := locsOf (x :: (lo.toList ++ (some z).toList))) (fun l h => ?_) hag hs⟩
      exact locs_mem (xs := x :: (lo.toList ++ [z])) (by simp) l h
  refine ⟨_, run_slice ho he hv hlo' hhi' h1 (by omega), ?_⟩
  have hyl : y.length = b - a := by rw [hy, List.length_take, List.length_drop]; omega
  have hcut : flatD enc y = ((flatD enc l).drop (a * sz)).take ((b - a) * sz) := by rw [hy, flat_cut hlen]
  simp only [Rep]
  unfold RepD
  refine ⟨_, cap - a, by rw [hyl], by omega, by omega, fun hn => ?_, ?_⟩
  · split at hn
    · have := k4 hn; omega
    · cases p with
      | none => have := k4 rfl; omega
      | some q => cases hn
  · rw [hcut]
    by_cases hc : cap = a
    · rw [if_pos hc, show b - a = 0 by omega, Nat.zero_mul, List.take_zero]
      simp only [RepDs]
    · rw [if_neg hc]
      cases p with
      | none => have := k4 rfl; omega
      | some q => exact RepDs.take (RepDs.drop k5 (a * sz)) _
end
section
variable {P : Program} {t : TypeId} {x y : Operand} {w : World} {a b : List UInt8}
end
end Go.Proofs.Ytcpageegmpjkiaa.K

namespace Go.Proofs.Ytcpageegmpjkiaa.K
open Go.RowKit Go.Lib

/-- Unknown slots. -/
def tp : Nat → List A → List A
  | 0, l => l
  | n + 1, l => .top :: tp n l
/-- Empty slots. -/
def tu : Nat → List A → List A
  | 0, l => l
  | n + 1, l => .tup [] :: tu n l
section
variable {P : Program} {ops : Array Oper} {K : St → List Ef → Prop} {o : Oper} {l : List Oper} {st : St} {F : List Ef}
theorem Wy (val : A) (bl : List (Nat × Blk)) {R : List Loc} (hop : OpRun P o st R val bl) (h : Walk P ops K l (st.put o.dst val bl) (F ++ [⟨o.dst, val, bl, gLoc ops o ++ R⟩])) (hg : gYes ops st o = true := by kernel_rfl) : Walk P ops K (o :: l) st F := Walk.yes hg hop h
theorem Wn (h : Walk P ops K l (st.put o.dst (.tup []) []) (F ++ [⟨o.dst, .tup [], [], gLoc ops o⟩])) (hg : gNo ops st o = true := by kernel_rfl) : Walk P ops K (o :: l) st F := Walk.no hg h
end
section
variable {P : Program} {K : Exit → St → Prop} {c : Code} {st : St} {id : Nat} {l : List Oper}
theorem Adr (h : Walk P l.toArray (fun st' F => chkF l.toArray F = true ∧ K .normal st') l st []) (hm : P.follows .mixedOrders = true := by kernel_rfl) : AWP P K (.region id l.toArray true) st := AWP.drawn hm h
theorem Ato (st' : St) (h : AWP P K c st') (e : st = st' := by kernel_rfl) : AWP P K c st := AWP.to_ e h
theorem Wdr {ops : Array Oper} {F : List Ef} (h : K .normal st) (hc : chkF ops F = true := by kernel_rfl) : Walk P ops (fun st' F => chkF ops F = true ∧ K .normal st') [] st F := ⟨hc, h⟩
end
/-! ### what is dead is forgotten -/
def maskE (ks nb : Nat) : Nat → List A → List A
  | _, [] => []
  | i, x :: l => (match ks.testBit i with | true => (match nb.testBit i with | true => x.nn | false => x) | false => .top) :: maskE ks nb (i + 1) l
def maskH (kb : Nat) : Nat → List Blk → List Blk
  | _, [] => []
  | i, b :: l => (match kb.testBit i, isLive b with | false, true => .gone | _, _ => b) :: maskH kb (i + 1) l
theorem maskE_reps {m : Mp} {S : Nat → Prop} {w : World} {ks nb : Nat} : ∀ {xs : List A} {i : Nat} {vs : List Value}, Reps m S w xs vs → Reps m S w (maskE ks nb i xs) vs
  | [], _, vs, h => by simpa only [maskE, Reps] using h
  | x :: xs, i, vs, h => by
    simp only [Reps] at h
    obtain ⟨v, r, rfl, h1, h2⟩ := h
    simp only [maskE, Reps]
    refine ⟨v, r, rfl, ?_, maskE_reps h2⟩
    split
    · split
      · exact Rep.nn _ _ h1
      · exact h1
    · simp only [Rep]
theorem maskH_get {kb : Nat} : ∀ (l : List Blk) (i j : Nat), (maskH kb i l).getD j .unborn = (match kb.testBit (i + j), isLive (l.getD j .unborn) with | false, true => .gone | _, _ => l.getD j .unborn)
  | [], i, j => by simp only [maskH, List.getD_nil, isLive]; split <;> simp_all
  | b :: l, i, 0 => by simp only [maskH, List.getD_cons_zero, Nat.add_zero]
  | b :: l, i, j + 1 => by
    simp only [maskH, List.getD_cons_succ]
    rw [maskH_get l (i + 1) j, show i + 1 + j = i + (j + 1) by omega]
theorem Weak.mask {st : St} (ks kb : Nat) : Weak st ⟨maskE ks 0 0 st.env, maskH kb 0 st.H, st.k⟩ := by
  intro cx m S a w hs
  have h := hs.hold
  let T : Nat → Bool := fun i => !kb.testBit i && isLive (st.H.getD i .unborn)
  let m' : Mp := fun i => if T i then some .gone else m i
  have hT : ∀ i, T i = true → ∃ p, m i = some p := fun i hi => by
    have hok := h.ok i
    have hb : isLive (st.H.getD i .unborn) = true := by simp only [T, Bool.and_eq_true] at hi; exact hi.2
    cases hx : st.H.getD i .unborn with
    | unborn => rw [hx] at hb; cases hb
    | gone => rw [hx] at hb; cases hb
    | box xs => rw [hx] at hok; obtain ⟨b, cells, T, h1, _⟩ := hok; exact ⟨_, h1⟩
    | arr e sz n xs => rw [hx] at hok; obtain ⟨v, h1, _⟩ := hok; exact ⟨_, h1⟩
    | fro e sz n xs => rw [hx] at hok; obtain ⟨v, h1, _⟩ := hok; exact ⟨_, h1⟩
    | rows e sz n xs => rw [hx] at hok; obtain ⟨v, h1, _⟩ := hok; exact ⟨_, h1⟩
    | mp ks cs => rw [hx] at hok; obtain ⟨v, _, _, h1, _⟩ := hok; exact ⟨_, h1⟩
  have hLe : Le m m' := fun k q hq => by
    by_cases e1 : T k = true
    · right; simp [m', e1]
    · left; simpa [m', e1] using hq
  have blkM : ∀ {id p b}, m' id = some p → p.blk = some b → m id = some p := fun {id p b} hp hb => by
    by_cases e1 : T id = true
    · simp only [m', e1, if_true, Option.some.injEq] at hp; subst hp; cases hb
    · simpa [m', e1] using hp
  refine ⟨m', S, ⟨⟨h.os, h.tape, h.output, h.size, h.old, h.s0, h.s, fun id p b hp hb => h.pl id p b (blkM hp hb) hb, fun id id' p p' b hd hp hp' hb hb' => h.apart id id' p p' b hd (blkM hp hb) (blkM hp' hb') hb hb', fun i => ?_, h.le.trans hLe⟩,
    maskE_reps (Reps.mono hLe (fun _ h => h) (Keeps.refl S w) _ _ hs.env), hs.df, hs.pre⟩⟩
  rw [maskH_get, Nat.zero_add]
  by_cases e1 : T i = true
  · have e2 := e1
    simp only [T, Bool.and_eq_true, Bool.not_eq_true'] at e2
    rw [e2.1, e2.2]
    show m' i = some .gone
    simp [m', e1]
  · have : (match kb.testBit i, isLive (st.H.getD i .unborn) with | false, true => Blk.gone | _, _ => st.H.getD i .unborn) = st.H.getD i .unborn := by
      split
      · rename_i q1 q2; exact absurd (show (!kb.testBit i && isLive (st.H.getD i .unborn)) = true by rw [q1, q2]; rfl) e1
      · rfl
    rw [this]
    exact (h.ok i).mono (by simp [m', e1]) hLe (fun _ h => h) (Keeps.refl S w) fun p g _ _ => ⟨rfl, fun h => h⟩
section
variable {P : Program} {K : Exit → St → Prop} {c : Code} {st : St}
/-- Dead slots and blocks are forgotten; the state is printed. -/
theorem Amk (ks kb : Nat) (st' : St) (h : AWP P K c st') (e : (⟨maskE ks 0 0 st.env, maskH kb 0 st.H, st.k⟩ : St) = st' := by kernel_rfl) : AWP P K c st := AWP.weak (Weak.mask ks kb) (AWP.to_ e h)
theorem Afz (vids : List Nat) (st' : St) (h : AWP P K c st') (e : (⟨A.views st.H vids st.env, frzN st.H vids st.H 0, st.k⟩ : St) = st' := by kernel_rfl) : AWP P K c st := AWP.weak (Weak.frz vids) (AWP.to_ e h)
end
/-- A state comes to a head: slots outside ks are forgotten, those in nb read nil as an empty slice; block j there is block ids[j] here. -/
def pickH (nb : Nat) (H : List Blk) : List Nat → List Blk
  | [] => []
  | i :: is => (match nb.testBit i, H.getD i .unborn with | true, .box xs => .box (A.nns xs) | _, b => b) :: pickH nb H is
theorem wkM_mask {ids : List Nat} {ks nb : Nat} : ∀ {xs ys : List A} {i : Nat}, A.rens ids xs = some (maskE ks nb i ys) → wkM ids xs ys
  | [], [], _, _ => trivial
  | [], y :: ys, i, h => by simp [A.rens, maskE] at h
  | x :: xs, [], i, h => by
    simp only [A.rens, maskE] at h
    split at h <;> cases h
  | x :: xs, y :: ys, i, h => by
    simp only [A.rens, maskE] at h
    split at h
    · rename_i p q h1 h2
      simp only [Option.some.injEq, List.cons.injEq] at h
      refine ⟨?_, wkM_mask (h2.trans (by rw [h.2]))⟩
      split at h
      · split at h
        · exact .inr (.inr (by rw [h1, h.1]))
        · exact .inr (.inl (by rw [h1, h.1]))
      · left
        have e := h1.trans (by rw [h.1])
        cases x with
        | top => rfl
        | d x => simp [A.ren] at e
        | agg xs => simp only [A.ren] at e; split at e <;> cases e
        | tup xs => simp only [A.ren] at e; split at e <;> cases e
        | loc a b => simp only [A.ren] at e; split at e <;> cases e
        | own a => simp only [A.ren] at e; split at e <;> cases e
        | sub a b c => simp only [A.ren] at e; split at e <;> cases e
        | clo f a b => simp only [A.ren] at e; split at e <;> cases e
        | ab p => simp [A.ren] at e
    · cases h
theorem wkM_rens {ids : List Nat} {nn : Bool} : ∀ {xs ys : List A}, A.rens ids xs = some (match nn with | true => A.nns ys | false => ys) → wkM ids xs ys
  | [], [], _ => trivial
  | [], y :: ys, h => by cases nn <;> simp [A.rens, A.nns] at h
  | x :: xs, [], h => by
    simp only [A.rens] at h
    split at h <;> cases nn <;> simp [A.nns] at h
  | x :: xs, y :: ys, h => by
    simp only [A.rens] at h
    split at h
    · rename_i p q h1 h2
      cases nn with
      | true =>
        simp only [A.nns, Option.some.injEq, List.cons.injEq] at h
        exact ⟨.inr (.inr (by rw [h1, h.1])), wkM_rens (nn := true) (by rw [h2]; simp [h.2])⟩
      | false =>
        simp only [Option.some.injEq, List.cons.injEq] at h
        exact ⟨.inr (.inl (by rw [h1, h.1])), wkM_rens (nn := false) (by rw [h2]; simp [h.2])⟩
    · cases h
theorem wkCs_pick {ids : List Nat} {nb : Nat} {H : List Blk} : ∀ {is : List Nat} {bs : List Blk}, renBs ids bs = some (pickH nb H is) → wkCs ids H is bs
  | [], [], _ => trivial
  | [], b :: bs, h => by
    simp only [renBs, pickH] at h
    split at h <;> cases h
  | i :: is, [], h => by simp [renBs, pickH] at h
  | i :: is, b :: bs, h => by
    simp only [renBs, pickH] at h
    split at h
    · rename_i p q h1 h2
      simp only [Option.some.injEq, List.cons.injEq] at h
      refine ⟨?_, wkCs_pick (h2.trans (by rw [h.2]))⟩
      split at h
      · rename_i xs q1 q2
        rw [q2]
        have e := h1.trans (by rw [h.1])
        cases b with
        | box ys =>
          simp only [Blk.ren] at e
          split at e
          · rename_i zs hz
            simp only [Option.some.injEq, Blk.box.injEq] at e
            exact wkM_rens (nn := true) (by rw [hz, e])
          · cases e
        | rows e' sz n xs => simp only [Blk.ren] at e; split at e <;> cases e
        | _ => cases e
      · have e := h1.trans (by rw [h.1])
        cases b with
        | box ys =>
          simp only [Blk.ren] at e
          split at e
          · rename_i zs hz
            simp only [Option.some.injEq] at e
            rw [← e]
            exact wkM_rens (nn := false) (by rw [hz])
          · cases e
        | unborn => exact e
        | gone => exact e
        | arr e' sz n xs => exact e
        | fro e' sz n xs => exact e
        | mp ks cs => exact e
        | rows e' sz n xs => exact e
    · cases h
theorem Weak.toK {st st' : St} (ks nb hb : Nat) (ids : List Nat) (h1 : st'.k = st.k := by rfl) (h2 : nodupB ids = true := by kernel_rfl) (h3 : ids.length = st'.H.length := by rfl) (h4 : Nat.ble st.k ids.length = true := by rfl) (h5 : ids.take st.k = List.range st.k := by rfl)
    (h6 : A.rens ids st'.env = some (maskE ks nb 0 st.env) := by kernel_rfl) (h7 : renBs ids st'.H = some (pickH hb st.H ids) := by kernel_rfl) : Weak st st' :=
  Weak.toN ids h1 h2 h3 ⟨Nat.le_of_ble_eq_true h4, h5⟩ (wkCs_pick h7) (wkM_mask h6)
/-! ### operations, computed -/
def loadOf (P : Program) (H : List Blk) (t : TypeId) (y : A) : Option A := match cellsAt H y with | some (xs, off) => loadA P t xs off | none => none
def faddrOf (P : Program) (H : List Blk) (t : TypeId) (f : Nat) (y : A) : Option A := match cellsAt H y, fieldOff P t f with | some _, some k => some (addA k y) | _, _ => none
def extOf (i : Nat) : A → Option A
  | .tup xs => xs[i]?
  | _ => none
def storeOf (P : Program) (H : List Blk) (t : TypeId) (v : A) : A → Option (Nat × Blk)
  | .loc id off => match cellsOf v, sizeT P t, H.getD id .unborn with
    | some ys, some n, .box xs => match Nat.beq n ys.length, Nat.ble (off + ys.length) xs.length with | true, true => some (id, .box (putC xs off ys)) | _, _ => none
    | _, _, _ => none
  | _ => none
def buildOf (P : Program) (t : TypeId) (parts : List (Nat × A)) : Option A := match P.underlying t with
  | some (.struct fs) => match placesOf P fs.toList, zeroA P t with
    | some pl, some zs => match fillA pl zs parts with | some ys => some (.agg ys) | none => none
    | _, _ => none
  | _ => none
def lenOf (P : Program) (H : List Blk) (t : TypeId) (y : A) : Option Int := match P.underlying t with
  | some .string => match y with | .d (.lit (.string s)) => some (s.size : Int) | _ => none
  | some (.slice _) => match sliceAt H y with | some (_, _, n) => some (n : Int) | none => none
  | _ => none
section
variable {P : Program} {o : Oper} {st : St}
theorem Omv {x : Operand} {val : A} (ho : mvOf o.op = some x) (h : opA st x = val := by kernel_rfl) : OpRun P o st (locOf x) val [] := (op_move ho).cast h
theorem OpT {c x y : Operand} {val : A} (ho : o.op = .pick c x y) (hc : opA st c = .d (.lit (.bool true)) := by kernel_rfl) (h : opA st x = val := by kernel_rfl) : OpRun P o st (locsOf [c, x]) val [] := (op_pickT ho hc).cast h
theorem OpF {c x y : Operand} {val : A} (ho : o.op = .pick c x y) (hc : opA st c = .d (.lit (.bool false)) := by kernel_rfl) (h : opA st y = val := by kernel_rfl) : OpRun P o st (locsOf [c, y]) val [] := (op_pickF ho hc).cast h
theorem Oex {x : Operand} {i : Nat} {val : A} (ho : o.op = .extract x i) (h : extOf i (opA st x) = some val := by kernel_rfl) : OpRun P o st (locOf x) val [] := by
  cases hx : opA st x <;> rw [hx] at h <;> simp only [extOf] at h <;> try cases h
  exact op_extract ho hx h
theorem Oal {t id : Nat} {ys : List A} (ho : o.op = .alloc t) (hz : zeroA P t = some ys := by kernel_rfl) (hid : st.H.getD id .unborn = .unborn := by kernel_rfl) : OpRun P o st [.blk id] (.loc id 0) [(id, .box ys)] := op_alloc ho hz hid
theorem Obx {t id : Nat} {x : Operand} {ys : List A} (ho : o.op = .box t x) (hys : cellsOf (opA st x) = some ys := by kernel_rfl) (hid : st.H.getD id .unborn = .unborn := by kernel_rfl) : OpRun P o st (locOf x ++ [.blk id]) (.loc id 0) [(id, .box ys)] := op_box ho rfl hys hid
theorem Old {t : TypeId} {x : Operand} {z : A} (ho : o.op = .load t x) (h : loadOf P st.H t (opA st x) = some z := by kernel_rfl) : OpRun P o st (locOf x ++ locA (opA st x)) z [] := by
  unfold loadOf at h
  split at h
  · exact op_load ho rfl ‹_› h
  · cases h
theorem Ofa {t : TypeId} {x : Operand} {f : Nat} {z : A} (ho : o.op = .fieldAddr t x f) (h : faddrOf P st.H t f (opA st x) = some z := by kernel_rfl) : OpRun P o st (locOf x ++ locA (opA st x)) z [] := by
  unfold faddrOf at h
  split at h
  · rename_i h1 h2
    cases h
    exact op_faddr ho rfl (by rw [h1]; rfl) h2
  · cases h
theorem Ost {t : TypeId} {x y : Operand} {id : Nat} {b : Blk} (ho : o.op = .store t x y) (h : storeOf P st.H t (opA st y) (opA st x) = some (id, b) := by kernel_rfl) : OpRun P o st (locsOf [x, y] ++ [.blk id]) (.tup []) [(id, b)] := by
  cases hx : opA st x <;> rw [hx] at h <;> simp only [storeOf] at h <;> try cases h
  split at h
  · rename_i ys n xs h1 h2 h3
    split at h
    · rename_i h4 h5
      cases h
      exact op_store ho hx h3 rfl h1 (by rw [h2, Nat.eq_of_beq_eq_true h4]) (Nat.le_of_ble_eq_true h5)
    · cases h
  · cases h
theorem Obd {t : TypeId} {parts : List (Nat × Operand)} {z : A} (ho : o.op = .build t parts.toArray) (h : buildOf P t (partsA st parts) = some z := by kernel_rfl) : OpRun P o st (partLocs parts) z [] := by
  unfold buildOf at h
  split at h
  · rename_i fs hu
    split at h
    · rename_i pl zs h1 h2
      split at h
      · rename_i ys h3; cases h; exact op_build ho hu h1 h2 h3
      · cases h
    · cases h
  · cases h
theorem Oln {t : TypeId} {x : Operand} {v : Int} (ho : o.op = .call ⟨.builtin .len, #[x], #[t]⟩) (h : lenOf P st.H t (opA st x) = some v := by kernel_rfl) : OpRun P o st (locOf x ++ locA (opA st x)) (.d (.lit (.int .i64 v))) [] := by
  unfold lenOf at h
  split at h
  · rename_i hu
    split at h
    · rename_i s hx
      cases h
      have := op_len_str (st := st) ho hu hx
      rw [hx]
      simpa [locA] using this
    · cases h
  · rename_i e hu
    split at h
    · rename_i ds off n hs
      cases h
      exact op_len ho hu rfl hs
    · cases h
  · cases h
theorem Obn {op : BinOp} {t u : TypeId} {x y : Operand} {a1 a2 v : Value} (ho : o.op = .binOp op t x y u) (hrun : ∀ w, (do eqGuard op t x y a1 a2; binOp op t a1 a2 : Sem Value).run P w = .ok v w)
    (hx : opA st x = .d (.lit a1) := by kernel_rfl) (hy : opA st y = .d (.lit a2) := by kernel_rfl) (h1 : v.oneCell' = true := by rfl) : OpRun P o st (locsOf [x, y]) (.d (.lit v)) [] := op_bin ho hx hy hrun h1
def callArgs (H : List Blk) (f : FuncId) (vids : List Nat) (args : List A) : A → Option (List A)
  | .clo (.func g) first cap => match Nat.beq g f with | true => some (A.views H vids (first ++ args ++ cap)) | false => none
  | _ => none
/-- Arguments as a contract has them: nil as nil, or as an empty slice. -/
def rawB (rw : Nat) : Nat → List A → List A
  | _, [] => []
  | i, x :: l => (match rw.testBit i with | true => x | false => x.nn) :: rawB rw (i + 1) l
theorem rawB_nnL {rw : Nat} : ∀ {xs : List A} {i : Nat}, nnL (rawB rw i xs) xs
  | [], _ => trivial
  | x :: l, i => ⟨by cases rw.testBit i <;> simp, rawB_nnL⟩
def frzIf (H : List Blk) (vids : List Nat) : Bool → List (Nat × Blk)
  | true => vids.map fun id => (id, (H.getD id .unborn).frz)
  | false => []
def callBl (H : List Blk) (pids nids vids : List Nat) (fz : Bool) (post : List Blk) : Option (List (Nat × Blk)) := match renBs (pids ++ nids) post with
  | some p => some ((pids ++ nids).zip p ++ frzIf H vids fz)
  | none => none
variable {callee : Operand} {args : List Operand} {ats : Array TypeId} {f : FuncId} {xs ys : List A} {pre : List Blk} {res : A} {post : List Blk} {val : A} {bl : List (Nat × Blk)}
theorem mkCall2 (pids nids vids : List Nat) (rw : Nat) (fz : Bool) (con : GCall P f xs pre res post) (hin : ∀ args w, (callFunc f args).run P w = .ok (.enter f args) w) (ho : o.op = .call ⟨.value callee, args.toArray, ats⟩)
    (hy : callArgs st.H f vids (args.map (opA st)) (opA st callee) = some ys) (hargs : A.rens pids xs = some (rawB rw 0 ys)) (hpre : preOK pids st.H pids pre) (hB : callB st.H post pids nids vids = true) (hbl : callBl st.H pids nids vids fz post = some bl) (hres : res.ren (pids ++ nids) = some val) :
    ∃ first cap post', CallOK P st o callee args f first cap xs pre res post pids nids vids val post' ∧ bl = (pids ++ nids).zip post' ++ frzIf st.H vids fz := by
  unfold callBl at hbl
  split at hbl
  · rename_i p hp
    cases hbl
    unfold callArgs at hy
    split at hy
    · rename_i g first cap hc
      split at hy
      · rename_i hg
        cases hy
        have := Nat.eq_of_beq_eq_true hg
        subst this
        exact ⟨first, cap, p, mkCallN pids nids vids con ho hc hin ⟨_, hargs, rawB_nnL⟩ hpre hB hp hres, rfl⟩
      · cases hy
    · cases hy
  · cases hbl
theorem Ocp (pids nids vids : List Nat) (rw : Nat) (con : GCall P f xs pre res post) (hp : res.Plain ∧ ∀ b ∈ post, b.Plain) (hin : ∀ args w, (callFunc f args).run P w = .ok (.enter f args) w) (ho : o.op = .call ⟨.value callee, args.toArray, ats⟩) (hpre : preOK pids st.H pids pre)
    (hargs : (callArgs st.H f vids (args.map (opA st)) (opA st callee)).map (rawB rw 0) = A.rens pids xs := by kernel_rfl) (hs : (callArgs st.H f vids (args.map (opA st)) (opA st callee)).isSome = true := by kernel_rfl)
    (hB : callB st.H post pids nids vids = true := by kernel_rfl) (hbl : callBl st.H pids nids vids false post = some bl := by kernel_rfl) (hres : res.ren (pids ++ nids) = some val := by kernel_rfl) : OpRun P o st (callR callee args pids nids vids) val bl := by
  obtain ⟨ys, hy⟩ := Option.isSome_iff_exists.1 hs
  rw [hy, Option.map_some] at hargs
  obtain ⟨first, cap, post', h, rfl⟩ := mkCall2 pids nids vids rw false con hin ho hy hargs.symm hpre hB hbl hres
  rw [frzIf, List.append_nil]
  exact h.plain hp
theorem Ocf (pids nids vids : List Nat) (rw : Nat) (con : GCall P f xs pre res post) (hin : ∀ args w, (callFunc f args).run P w = .ok (.enter f args) w) (ho : o.op = .call ⟨.value callee, args.toArray, ats⟩) (hpre : preOK pids st.H pids pre)
    (hargs : (callArgs st.H f vids (args.map (opA st)) (opA st callee)).map (rawB rw 0) = A.rens pids xs := by kernel_rfl) (hs : (callArgs st.H f vids (args.map (opA st)) (opA st callee)).isSome = true := by kernel_rfl)
    (hB : callB st.H post pids nids vids = true := by kernel_rfl) (hbl : callBl st.H pids nids vids true post = some bl := by kernel_rfl) (hres : res.ren (pids ++ nids) = some val := by kernel_rfl) : OpRun P o st (callR callee args pids nids vids) val bl := by
  obtain ⟨ys, hy⟩ := Option.isSome_iff_exists.1 hs
  rw [hy, Option.map_some] at hargs
  obtain ⟨first, cap, post', h, rfl⟩ := mkCall2 pids nids vids rw true con hin ho hy hargs.symm hpre hB hbl hres
  exact h.frozen
end
section
variable {P : Program} {rs : List ResultVar} {k : Nat} {res : A} {post : List Blk} {st : St}
def resOne (P : Program) (st : St) (rs : List ResultVar) : Option A := match resList P st rs with | some xs => some (one xs).nn | none => none
def retB (k : Nat) (ids : List Nat) : Bool := nodupB ids && Nat.ble k ids.length && decide (ids.take k = List.range k)
theorem ret_2 (ids : List Nat) (h2 : resOne P st rs = res.ren ids) (h2' : (resOne P st rs).isSome = true) (h3 : renBs ids post = some (pickH 0 st.H ids)) (h5 : retB k ids = true) : RetK P rs k res post .ret st ∧ RetK P rs k res post .normal st := by
  unfold resOne at h2 h2'
  split at h2
  · rename_i xs hx
    simp only [retB, Bool.and_eq_true, decide_eq_true_eq] at h5
    refine ret_any ids xs hx h2.symm ?_ h5.1.1 ⟨Nat.le_of_ble_eq_true h5.1.2, h5.2⟩
    clear h2 h2' hx h5
    have : ∀ (is : List Nat) (bs : List Blk), renBs ids bs = some (pickH 0 st.H is) → preOK ids st.H is bs := by
      intro is
      induction is with
      | nil =>
        intro bs h
        cases bs with
        | nil => trivial
        | cons b bs => simp only [renBs, pickH] at h; split at h <;> cases h
      | cons i is ih =>
        intro bs h
        cases bs with
        | nil => simp [renBs, pickH] at h
        | cons b bs =>
          simp only [renBs, pickH] at h
          split at h
          · rename_i p q h1 h2
            simp only [Option.some.injEq, List.cons.injEq, Nat.zero_testBit] at h
            exact ⟨by rw [h1, h.1], ih bs (by rw [h2, h.2])⟩
          · cases h
    exact this ids post h3
  · rename_i hx; rw [hx] at h2'; cases h2'
theorem ret_i (ids : List Nat) (h2 : resOne P st rs = res.ren ids := by kernel_rfl) (h2' : (resOne P st rs).isSome = true := by kernel_rfl) (h3 : renBs ids post = some (pickH 0 st.H ids) := by kernel_rfl) (h5 : retB k ids = true := by kernel_rfl) : RetK P rs k res post .ret st := (ret_2 ids h2 h2' h3 h5).1
theorem ret_n (ids : List Nat) (h2 : resOne P st rs = res.ren ids := by kernel_rfl) (h2' : (resOne P st rs).isSome = true := by kernel_rfl) (h3 : renBs ids post = some (pickH 0 st.H ids) := by kernel_rfl) (h5 : retB k ids = true := by kernel_rfl) : RetK P rs k res post .normal st := (ret_2 ids h2 h2' h3 h5).2
end
section
variable {P : Program} {o : Oper} {st : St}
theorem Ocs {R : List Loc} {val val' : A} {bl : List (Nat × Blk)} (e : val = val') (h : OpRun P o st R val bl) : OpRun P o st R val' bl := h.cast e
theorem OcB {R : List Loc} {val : A} {bl bl' : List (Nat × Blk)} (h : OpRun P o st R val bl) (e : bl = bl') : OpRun P o st R val bl' := h.castB e
theorem Ofz (vids : List Nat) (val : A) (bl : List (Nat × Blk)) {R : List Loc} {val' : A} {bl' : List (Nat × Blk)} (h : OpRun P o st R val bl) (hv : vids.all (fun i => (lastB bl i).isSome) = true := by kernel_rfl) (e1 : val.view (putB [] bl) vids = val' := by kernel_rfl)
    (e2 : (bl ++ vids.map fun id => (id, ((putB [] bl).getD id .unborn).frz)) = bl' := by kernel_rfl) : OpRun P o st R val' bl' := ((OpRun.frzNew vids h hv).cast e1).castB e2
variable {α : Type} {enc : α → List D} {l r a : List α} {i sz k : Nat} {x0 : α} {t : TypeId} {x : Operand}
/-- An element of a frozen slice, a row's: a struct or one cell; or a part of it. -/
theorem Lf {zs : List A} (ho : o.op = .load t x) (hl : ∀ a, (enc a).length = sz) (hx : l[i]? = some x0) (hy : opA st x = .d (.ref (List.drop (i * sz) (flatD enc l))) := by kernel_rfl) (hk : aggSize P t = some zs.length := by kernel_rfl)
    (hz : ((enc x0).take zs.length).map A.d = zs := by kernel_rfl) (hle : Nat.ble zs.length sz = true := by rfl) : OpRun P o st (locOf x ++ locA (.d (.ref (List.drop (i * sz) (flatD enc l))))) (.agg zs) [] :=
  op_load_of zs ho hy rfl hk (flat_ref_le hl hx (Nat.le_of_ble_eq_true hle)) (flat_ref hl hx hz)
theorem Lf1 {z : D} (ho : o.op = .load t x) (hl : ∀ a, (enc a).length = sz) (hx : l[i]? = some x0) (hy : opA st x = .d (.ref (List.drop (i * sz) (flatD enc l))) := by kernel_rfl) (hk : scalarT P t = true := by kernel_rfl)
    (hz : (enc x0)[0]? = some z := by kernel_rfl) : OpRun P o st (locOf x ++ locA (.d (.ref (List.drop (i * sz) (flatD enc l))))) (.d z) [] :=
  op_load_at _ ho hy rfl hk (flat_ref_at hl hx hz)
theorem Lfk1 {z : D} (k : Nat) (ho : o.op = .load t x) (hl : ∀ a, (enc a).length = sz) (hx : l[i]? = some x0) (hy : opA st x = .d (.ref (List.drop k (List.drop (i * sz) (flatD enc l)))) := by kernel_rfl) (hk : scalarT P t = true := by kernel_rfl)
    (hz : (enc x0)[k]? = some z := by kernel_rfl) : OpRun P o st (locOf x ++ locA (.d (.ref (List.drop k (List.drop (i * sz) (flatD enc l)))))) (.d z) [] :=
  op_load_at _ ho hy rfl hk (flat_refk_at hl hx hz)
theorem Lr {zs : List A} (ho : o.op = .load t x) (hl : ∀ a, (enc a).length = sz) (hx : l[i]? = some x0) (hy : cellsAt st.H (opA st x) = some ((flatD enc l).map A.d, i * sz) := by kernel_rfl) (hk : aggSize P t = some zs.length := by kernel_rfl)
    (hz : ((enc x0).take zs.length).map A.d = zs := by kernel_rfl) (hle : Nat.ble zs.length sz = true := by rfl) : OpRun P o st (locOf x ++ locA (opA st x)) (.agg zs) [] :=
  op_load_of zs ho rfl hy hk (flat_row_le hl hx (Nat.le_of_ble_eq_true hle)) (flat_row hl hx hz)
theorem Lr1 {z : D} (ho : o.op = .load t x) (hl : ∀ a, (enc a).length = sz) (hx : l[i]? = some x0) (hy : cellsAt st.H (opA st x) = some ((flatD enc l).map A.d, i * sz) := by kernel_rfl) (hk : scalarT P t = true := by kernel_rfl)
    (hz : (enc x0)[0]? = some z := by kernel_rfl) : OpRun P o st (locOf x ++ locA (opA st x)) (.d z) [] :=
  op_load_at _ ho rfl hy hk (flat_row_at hl hx hz)
theorem Lrk1 {z : D} (k : Nat) (ho : o.op = .load t x) (hl : ∀ a, (enc a).length = sz) (hx : l[i]? = some x0) (hy : cellsAt st.H (opA st x) = some ((flatD enc l).map A.d, i * sz + k) := by kernel_rfl) (hk : scalarT P t = true := by kernel_rfl)
    (hz : (enc x0)[k]? = some z := by kernel_rfl) : OpRun P o st (locOf x ++ locA (opA st x)) (.d z) [] :=
  op_load_at _ ho rfl hy hk (flat_rowk_at hl hx hz)
def intOf : A → Option Int
  | .d (.lit (.int _ n)) => some n
  | _ => none
theorem intOf_spec {y : A} {n : Int} (h : intOf y = some n) : ∃ k, y = .d (.lit (.int k n)) := by
  unfold intOf at h
  split at h
  · cases h; exact ⟨_, rfl⟩
  · cases h
/-- An element's address. -/
theorem Oia {ix : Operand} {iv : Int} {val : A} (ho : o.op = .indexAddr t x ix) (hl : ∀ a, (enc a).length = sz) (hi : iv = ((Int.toNat iv : Nat) : Int)) (hg : l[Int.toNat iv]? = some x0)
    (hy : sliceAt st.H (opA st x) = some (flatD enc l, 0, l.length) := by kernel_rfl) (he : (sliceElem P t).map Prod.snd = some sz := by kernel_rfl) (hix : intOf (opA st ix) = some iv := by kernel_rfl) (hv : elemA (Int.toNat iv * sz) (opA st x) = val := by kernel_rfl) :
    OpRun P o st (locsOf [x, ix] ++ locA (opA st x)) val [] := by
  obtain ⟨k, hk⟩ := intOf_spec hix
  cases hs : sliceElem P t with
  | none => rw [hs] at he; cases he
  | some q =>
    obtain ⟨e, s⟩ := q
    rw [hs] at he
    cases he
    exact (op_iaddr ho rfl hy hs hk hi (getlt hg)).cast hv
theorem Oap {e by_ id nid : Nat} {z : Value} {s : Operand} (ho : o.op = .call ⟨.builtin .append, #[s, x], #[t, t]⟩) (E : ElemOK P t e sz by_ z) (hl : ∀ a, (enc a).length = sz) (he : a = l ++ r) (hle : l.length + r.length ≤ 1000000000) (hb : Nat.ble by_ 140000 = true := by rfl)
    (hs0 : opA st s = .own id := by kernel_rfl) (hblk : st.H.getD id .unborn = .arr e sz l.length (flatD enc l) := by kernel_rfl) (hy : sliceAt st.H (opA st x) = some (flatD enc r, 0, r.length) := by kernel_rfl) (hnid : st.H.getD nid .unborn = .unborn := by kernel_rfl) (hne : Nat.beq id nid = false := by rfl) :
    OpRun P o st (locsOf [s, x] ++ (locA (opA st x) ++ [.blk id, .blk nid])) (.own nid) [(id, .gone), (nid, .arr e sz a.length (flatD enc a))] :=
  (op_append ho E hs0 hblk rfl hy (flat_all hl) (flatD_length hl _) (app_bytes hle (Nat.le_of_ble_eq_true hb)) hnid (Nat.ne_of_beq_eq_false hne)).castB (bl_app (by rw [he, List.length_append]) (by rw [he, flatD_append]))
def buildSliceOf (P : Program) (t : TypeId) (len : Nat) (parts : List (Nat × A)) : Option Blk := match sliceElem P t with
  | some (e, sz) => match zeroA P e with
    | some zs => match Nat.beq zs.length sz, Nat.blt 0 sz, Nat.ble (len * sz) 16777216, fillA ((List.range len).map fun i => (i * sz, sz)) (List.replicate (len * sz) .top) parts with
      | true, true, true, some ys => match toDs ys, Nat.beq ys.length (len * sz) with
        | some ds, true => some (.arr e sz len ds)
        | _, _ => none
      | _, _, _, _ => none
    | none => none
  | none => none
theorem Obs {len id : Nat} {parts : List (Nat × Operand)} {b : Blk} (ho : o.op = .buildSlice t len parts.toArray) (h : buildSliceOf P t len (partsA st parts) = some b := by kernel_rfl) (hid : st.H.getD id .unborn = .unborn := by kernel_rfl) :
    OpRun P o st (partLocs parts ++ [.blk id]) (.own id) [(id, b)] := by
  unfold buildSliceOf at h
  split at h
  · rename_i e sz he
    split at h
    · rename_i zs hz
      split at h
      · rename_i ys h1 h2 h3 h4
        split at h
        · rename_i ds h5 h6
          cases h
          exact op_buildSlice ho he hz (Nat.eq_of_beq_eq_true h1) (Nat.le_of_ble_eq_true h2) h3 h4 h5 (Nat.eq_of_beq_eq_true h6) hid
        · cases h
      · cases h
    · cases h
  · cases h
/-- An element of an own row is written, or a part of it. -/
def dsOf (v : A) : Option (List D) := match cellsOf v with
  | some ys => toDs ys
  | none => none
theorem toDs_len : ∀ {ys : List A} {ds : List D}, toDs ys = some ds → ds.length = ys.length
  | [], ds, h => by simp only [toDs, Option.some.injEq] at h; subst h; rfl
  | .d x :: ys, ds, h => by
    simp only [toDs] at h
    split at h
    · cases h; simp [toDs_len ‹_›]
    · cases h
  | .top :: _, _, h => by simp [toDs] at h
  | .agg _ :: _, _, h => by simp [toDs] at h
  | .tup _ :: _, _, h => by simp [toDs] at h
  | .loc _ _ :: _, _, h => by simp [toDs] at h
  | .own _ :: _, _, h => by simp [toDs] at h
  | .sub _ _ _ :: _, _, h => by simp [toDs] at h
  | .clo _ _ _ :: _, _, h => by simp [toDs] at h
  | .ab _ :: _, _, h => by simp [toDs] at h
theorem Osr {e id : Nat} {y : Operand} (k : Nat) (ho : o.op = .store t x y) (hl : ∀ a, (enc a).length = sz) (hx : l[i]? = some x0) (y0 : α) (hp : opA st x = .loc id (i * sz + k) := by kernel_rfl)
    (hb : st.H.getD id .unborn = .arr e sz l.length (flatD enc l) := by kernel_rfl) (hds : (dsOf (opA st y)).isSome = true := by kernel_rfl) (hn : sizeT P t = some ((dsOf (opA st y)).getD []).length := by kernel_rfl) (hle : Nat.ble (k + ((dsOf (opA st y)).getD []).length) sz = true := by kernel_rfl)
    (hy0 : putC (enc x0) k ((dsOf (opA st y)).getD []) = enc y0 := by kernel_rfl) : OpRun P o st (locsOf [x, y] ++ [.blk id]) (.tup []) [(id, .arr e sz (l.set i y0).length (flatD enc (l.set i y0)))] := by
  obtain ⟨cs, hcs⟩ := Option.isSome_iff_exists.1 hds
  rw [hcs] at hn hle hy0
  simp only [Option.getD_some] at hn hle hy0
  unfold dsOf at hcs
  split at hcs
  · rename_i ys hys
    exact (op_storeRow ho hp hb rfl hys hcs (by rw [hn, toDs_len hcs]) (flat_fitk hl (getlt hx) (Nat.le_of_ble_eq_true hle))).castB (bl_one (by simp) (flat_setk hl hx hy0 (Nat.le_of_ble_eq_true hle)))
  · cases hcs
end
/-! ### nil becomes an own row -/
theorem wkN_refl {nid : Nat} : ∀ xs : List A, wkN nid xs xs
  | [] => trivial
  | x :: xs => ⟨.inl rfl, wkN_refl xs⟩
theorem wkN_set {nid : Nat} : ∀ {xs : List A} {t : Nat}, xs[t]? = some (.d .nil) → wkN nid (xs.set t (.own nid)) xs
  | [], t, h => by simp at h
  | x :: xs, 0, h => by
    simp only [List.getElem?_cons_zero, Option.some.injEq] at h
    exact ⟨.inr ⟨rfl, h⟩, wkN_refl xs⟩
  | x :: xs, t + 1, h => ⟨.inl rfl, wkN_set (by simpa using h)⟩
theorem Weak.ownS {st : St} (t e sz : Nat) (h1 : st.env[t]? = some (.d .nil)) : Weak st ⟨st.env.set t (.own st.H.length), st.H ++ [.arr e sz 0 []], st.k⟩ :=
  Weak.own (st' := ⟨st.env.set t (.own st.H.length), st.H ++ [.arr e sz 0 []], st.k⟩) st.H.length e sz (getD_none (Nat.le_refl _)) rfl (wkN_set h1) (by simp [List.getD_eq_getElem?_getD]) fun j hj => .inl (getD_snoc rfl hj)
def boxAt (H : List Blk) (b : Nat) : List A := match H.getD b .unborn with | .box xs => xs | _ => []
theorem Weak.ownB {st : St} (b i e sz : Nat) (h1 : (boxAt st.H b)[i]? = some (.d .nil)) : Weak st ⟨st.env, st.H.set b (.box ((boxAt st.H b).set i (.own st.H.length))) ++ [.arr e sz 0 []], st.k⟩ := by
  have hb : st.H.getD b .unborn = .box (boxAt st.H b) := by
    cases hx : st.H.getD b .unborn with
    | box xs => simp only [boxAt, hx]
    | _ => rw [boxAt, hx] at h1; simp at h1
  have hl : b < st.H.length := by
    rcases Nat.lt_or_ge b st.H.length with h | h
    · exact h
    · rw [getD_none h] at hb; cases hb
  exact Weak.own (st' := ⟨st.env, st.H.set b (.box ((boxAt st.H b).set i (.own st.H.length))) ++ [.arr e sz 0 []], st.k⟩) st.H.length e sz (getD_none (Nat.le_refl _)) rfl (wkN_refl _) (by simp [List.getD_eq_getElem?_getD, List.getElem?_append]) (ownH_set (i := b) rfl hb hl (wkN_set h1))
section
variable {P : Program} {K : Exit → St → Prop} {c : Code} {st : St}
theorem Aow (t e sz : Nat) (st' : St) (h : AWP P K c st') (h1 : st.env[t]? = some (.d .nil) := by kernel_rfl) (e1 : (⟨st.env.set t (.own st.H.length), st.H ++ [.arr e sz 0 []], st.k⟩ : St) = st' := by kernel_rfl) : AWP P K c st := AWP.weak (Weak.ownS t e sz h1) (AWP.to_ e1 h)
theorem Aob (b i e sz : Nat) (st' : St) (h : AWP P K c st') (h1 : (boxAt st.H b)[i]? = some (.d .nil) := by kernel_rfl) (e1 : (⟨st.env, st.H.set b (.box ((boxAt st.H b).set i (.own st.H.length))) ++ [.arr e sz 0 []], st.k⟩ : St) = st' := by kernel_rfl) : AWP P K c st := AWP.weak (Weak.ownB b i e sz h1) (AWP.to_ e1 h)
theorem Ago (j : Nat) (st' : St) (h : AWP P K c st') (hb : isLive (st.H.getD j .unborn) = true := by kernel_rfl) (e1 : (⟨st.env, st.H.set j .gone, st.k⟩ : St) = st' := by kernel_rfl) : AWP P K c st := AWP.weak (Weak.gone j hb e1.symm) h
end
section
variable {P : Program} {t u : TypeId} {k : IntKind} {a b : Int}
theorem hb_max (ty : TypeId) (cs : Array Bool) (w : World) : (builtin .max #[t, u] ty cs #[.int k a, .int k b]).run P w = .ok (.value (.int k (max a b))) w := by
  simp [builtin, Builtin.max_, Builtin.max2]
  omega
theorem hb_min (ty : TypeId) (cs : Array Bool) (w : World) : (builtin .min #[t, u] ty cs #[.int k a, .int k b]).run P w = .ok (.value (.int k (min a b))) w := by
  simp [builtin, Builtin.min_, Builtin.min2]
  omega
end
end Go.Proofs.Ytcpageegmpjkiaa.K

namespace Go.Proofs.Ytcpageegmpjkiaa.K
open Go.RowKit Go.Lib
def notIface (P : Program) (t : TypeId) : Bool := match P.underlying t with
  | some (.interface _) => false
  | some _ => true
  | none => false
section
variable {P : Program} {o : Oper} {st : St}
theorem Oif {t : TypeId} {x : Operand} {v : Value} (ho : o.op = .makeInterface t x) (hx : opA st x = .d (.lit v) := by kernel_rfl) (ht : notIface P t = true := by kernel_rfl) : OpRun P o st (locOf x) (.d (.lit (.iface t v))) [] := by
  refine .pure fun st' hag cx m S a w hs => ⟨.iface t v, ?_, by simp only [Rep]; unfold RepD; exact ⟨rfl, rfl⟩⟩
  have h1 := op_lit hx (fun _ h => h) hag hs
  unfold notIface at ht
  cases hu : P.underlying t with
  | none => rw [hu] at ht; cases ht
  | some d =>
    rw [hu] at ht
    cases d <;> first | (simp at ht; done) | simp [execOp, ho, h1, Instr.makeInterface, run_underlying hu]
def zeroOf (P : Program) (t : TypeId) : Option Value := match P.info? t with
  | some i => i.zero
  | none => none
theorem run_zero {t : TypeId} {z : Value} (h : zeroOf P t = some z) (w : World) : (zeroValue t).run P w = .ok z w := by
  unfold zeroOf at h
  split at h
  · rename_i i hi; simp [zeroValue, typeInfo, hi, h]
  · cases h
end
end Go.Proofs.Ytcpageegmpjkiaa.K

namespace Go.Proofs.Ytcpageegmpjkiaa.K
open Go.RowKit Go.Lib
section
variable {P : Program} {K : Exit → St → Prop} {b c : Code} {st : St}
theorem AWP.goto {l : Nat} (h : K (.goto l) st) : AWP P K (.goto l) st := fun cx m S a w hs => wp_goto ⟨st, m, S, h, hs⟩
theorem AWP.label {l : Nat} (h : K .normal st) : AWP P K (.label l) st := fun cx m S a w hs => wp_label ⟨st, m, S, h, hs⟩
theorem Then.goto {l : Nat} (h : K (.goto l) st) : Then P K b (.goto l) st := h
theorem InBlock.goto {l id : Nat} (h : K (.goto l) st) : InBlock id K (.goto l) st := h
theorem RoundK.goto {n l : Nat} (h : K (.goto l) st) : RoundK P K c n (.goto l) st := h
/-- Up to the label. -/
def LabK {α : Type} (S : α → St) (I : α → Prop) (K : Exit → St → Prop) : Exit → St → Prop
  | .normal, st => ∃ x, I x ∧ Weak st (S x)
  | .goto _, _ => False
  | e, st => K e st
/-- From the label on. -/
def JmpK {α : Type} (l : Nat) (S : α → St) (I : α → Prop) (μ : α → Nat) (n : Nat) (K : Exit → St → Prop) : Exit → St → Prop
  | .goto l', st => l' = l ∧ ∃ y, I y ∧ μ y < n ∧ Weak st (S y)
  | e, st => K e st
section
variable {α : Type} {S : α → St} {I : α → Prop} {μ : α → Nat} {l n : Nat}
theorem LabK.ret (h : K .ret st) : LabK S I K .ret st := h
theorem LabK.exit {id : Nat} (h : K (.exit id) st) : LabK S I K (.exit id) st := h
theorem JmpK.ret (h : K .ret st) : JmpK l S I μ n K .ret st := h
theorem JmpK.exit {id : Nat} (h : K (.exit id) st) : JmpK l S I μ n K (.exit id) st := h
theorem JmpK.normal (h : K .normal st) : JmpK l S I μ n K .normal st := h
end
end
section
variable {P : Program} {o : Oper} {st : St}
end
theorem take_rep {β : Type} {zs : List β} {n c : Nat} (h : n ≤ c) : ((List.replicate c zs).flatten).take (n * zs.length) = (List.replicate n zs).flatten := by
  obtain ⟨d, rfl⟩ : ∃ d, c = n + d := ⟨c - n, by omega⟩
  rw [← List.replicate_append_replicate, List.flatten_append]
  exact List.take_left' (by rw [List.length_flatten, List.map_replicate, List.sum_replicate_nat])
/-- A row's end is cleared. -/
theorem op_clear {P : Program} {o : Oper} {st : St} {t e sz by_ id a n k : Nat} {z : Value} {x : Operand} {xs : List D} (ho : o.op = .call ⟨.builtin .clear, #[x], #[t]⟩) (E : ElemOK P t e sz by_ z) (hone : z.cells.toList.all (·.oneCell') = true) (hx : opA st x = .sub id (a * sz) (k + 1)) (hb : st.H.getD id .unborn = .arr e sz n xs) (hxs : xs.length = n * sz) (hk : a + (k + 1) = n) :
    OpRun P o st (locOf x ++ [.blk id]) (.tup []) [(id, .arr e sz n (putC xs (a * sz) (List.replicate (k + 1) (z.cells.toList.map litD)).flatten))] := by
  refine .value fun st' hag cx m S act w hs => ?_
  have hb' : st'.H.getD id .unborn = .arr e sz n xs := (blk1 (by simp) hag).trans hb
  have hrd := op_rep hx (R := locOf x ++ [.blk id]) (fun l h => by simp [h]) hag hs
  have hok := hs.hold.ok id
  rw [hb'] at hok
  obtain ⟨v, h5, h6, h9⟩ := hok
  simp only [Rep, h5] at hrd
  obtain ⟨g, cp, hg, hev, _⟩ := hrd
  obtain ⟨i, hi, hz, h4, h5'⟩ := E.parts
  have hz1 := E.zs
  have h1 : ones z.cells.toList := fun v hv => List.all_eq_true.1 hone v hv
  have hmem : ones (List.replicate (k + 1) z.cells.toList).flatten := fun v hv => by
    obtain ⟨l, hl, hv⟩ := List.mem_flatten.1 hv
    rw [(List.mem_replicate.1 hl).2] at hv
    exact h1 v hv
  have hul : (List.replicate (k + 1) z.cells.toList).flatten.length = (k + 1) * sz := by rw [List.length_flatten, List.map_replicate, List.sum_replicate_nat, Array.length_toList, hz1]
  have hel : (List.replicate (k + 1) (z.cells.toList.map litD)).flatten.length = (k + 1) * sz := by rw [List.length_flatten, List.map_replicate, List.sum_replicate_nat, List.length_map, Array.length_toList, hz1]
  have hrep : RepsD S w (List.replicate (k + 1) (z.cells.toList.map litD)).flatten (List.replicate (k + 1) z.cells.toList).flatten := ⟨by rw [hul, hel], fun j x v hx hv => by
    have : (List.replicate (k + 1) (z.cells.toList.map litD)).flatten = ((List.replicate (k + 1) z.cells.toList).flatten).map litD := by rw [List.map_flatten, List.map_replicate]
    rw [this, List.getElem?_map, hv] at hx
    cases hx
    exact litD_rep (hmem v (List.mem_of_getElem? hv))⟩
  have hfit : a * sz + (List.replicate (k + 1) (z.cells.toList.map litD)).flatten.length ≤ xs.length := by
    rw [hel, hxs, ← hk, Nat.add_mul a]; exact Nat.le_refl _
  obtain ⟨cur, T, h10, h11, h12⟩ := rowOK_put h6 hg hrep hmem hfit
  have hst := run_storeCells_row P g (a * sz) T (List.replicate (k + 1) z.cells.toList).flatten 0 cur w h10 (by simpa using h11) hmem
  simp only [Nat.add_zero] at hst
  have hflat : (Builtin.zeroCells z.cells (k + 1)).toList = (List.replicate (k + 1) z.cells.toList).flatten := made_flat z.cells (k + 1) (by rw [hz1]; exact E.pos)
  have hrun : (Builtin.clear_ #[t] o.type #[.slice (some ⟨g, a * sz, none⟩) (k + 1) cp]).run P w = .ok (.tuple #[]) (w.setRow g (putC cur.toList (a * sz) (List.replicate (k + 1) z.cells.toList).flatten).toArray) := by
    simp [Builtin.clear_, run_underlying E.slice, zeroValue, typeInfo, hi, hz, hflat, hst, putC]
  have hw := hs.hold.write (w' := w.setRow g (putC cur.toList (a * sz) (List.replicate (k + 1) z.cells.toList).flatten).toArray) (b := .arr e sz n (putC xs (a * sz) (List.replicate (k + 1) (z.cells.toList.map litD)).flatten)) h5 hg (h9 g hg) rfl rfl rfl (by simp [World.setRow])
    (fun k hk hne => setRow_other w g k _ hne) (fun hK => ⟨v, h5, h12 (fun fz h => setRow_heap w g cur _ T fz h) (fun _ h => h) hK, h9⟩)
  refine ⟨.tuple #[], _, m, S, ?_, Le.refl m, fun _ h => h, hw.1, hw.2, by simp [Rep, Reps]⟩
  simp [execOp, ho, resolve, invoke, builtin, hev, hrun]
def clr {α : Type} (l : List α) (a : Nat) (z : α) : List α := l.take a ++ List.replicate (l.length - a) z
theorem clr_len {α : Type} {l : List α} {a : Nat} {z : α} (h : a < l.length) : (clr l a z).length = l.length := by
  unfold clr; rw [List.length_append, List.length_take, List.length_replicate]; omega
theorem clr_put {α : Type} {enc : α → List D} {l : List α} {a sz : Nat} {z0 : α} {zs : List D} (hl : ∀ a, (enc a).length = sz) (ha : a < l.length) (hz : zs = enc z0) : putC (flatD enc l) (a * sz) (List.replicate (l.length - a - 1 + 1) zs).flatten = flatD enc (clr l a z0) := by
  have e1 : (flatD enc l).take (a * sz) = flatD enc (l.take a) := by
    have := flat_cut (l := l) hl (a := 0) (b := a)
    simpa using this
  have e2 : (flatD enc l).drop (a * sz + (flatD enc (List.replicate (l.length - a) z0)).length) = [] := by
    apply List.drop_eq_nil_of_le
    rw [flatD_length hl, flatD_length hl, List.length_replicate, ← Nat.add_mul]
    exact Nat.mul_le_mul_right _ (by omega)
  rw [show l.length - a - 1 + 1 = l.length - a by omega, flat_rep hz]
  unfold putC clr
  rw [e1, e2, List.append_nil, flatD_append]
theorem Ocl {P : Program} {o : Oper} {st : St} {α : Type} {enc : α → List D} {l : List α} {a e sz by_ t id : Nat} {z : Value} {z0 : α} {x : Operand} (ho : o.op = .call ⟨.builtin .clear, #[x], #[t]⟩) (E : ElemOK P t e sz by_ z) (hl : ∀ a, (enc a).length = sz) (ha : a < l.length) (hz : z.cells.toList.map litD = enc z0 := by kernel_rfl) (hone : z.cells.toList.all (·.oneCell') = true := by kernel_rfl)
    (hx : opA st x = .sub id (a * sz) (l.length - a - 1 + 1) := by kernel_rfl) (hb : st.H.getD id .unborn = .arr e sz l.length (flatD enc l) := by kernel_rfl) :
    OpRun P o st (locOf x ++ [.blk id]) (.tup []) [(id, .arr e sz (clr l a z0).length (flatD enc (clr l a z0)))] := by
  rw [← clr_put hl ha hz, clr_len ha]
  exact op_clear ho E hone hx hb (flatD_length hl l) (by omega)
/-- A row's end as a part of it. -/
theorem Osb {P : Program} {o : Oper} {st : St} {α : Type} {enc : α → List D} {l : List α} {a e sz t id : Nat} {k : IntKind} {iv : Int} {x y : Operand} (ho : o.op = .slice t x (some y) none none) (hl : ∀ a, (enc a).length = sz) (ha : a < l.length) (hiv : iv = (a : Int)) (hsz : Nat.blt 0 sz = true := by rfl) (he : sliceElem P t = some (e, sz) := by kernel_rfl) (hx : opA st x = .own id := by kernel_rfl)
    (hb : st.H.getD id .unborn = .arr e sz l.length (flatD enc l) := by kernel_rfl) (hy : opA st y = .d (.lit (.int k iv)) := by kernel_rfl) : OpRun P o st (locsOf (x :: ((some y).toList ++ (none : Option Operand).toList)) ++ locA (.own id)) (.sub id (a * sz) (l.length - a - 1 + 1)) [] := by
  have hs : sliceAt st.H (.own id) = some (flatD enc l, 0, l.length) := by simp only [sliceAt, hb]
  have := op_slice (l := a) (h := l.length) ho he hx hs ⟨k, iv, hy, hiv⟩ rfl (by omega) (Nat.le_refl _) (.inl ha) (by
    show a * sz < (flatD enc l).length
    rw [flatD_length hl]
    exact Nat.mul_lt_mul_of_pos_right ha (Nat.le_of_ble_eq_true hsz))
  rw [show l.length - a - 1 + 1 = l.length - a by omega]
  exact this
/-- An array is built. -/
def buildArr (P : Program) (t n sz : Nat) (parts : List (Nat × A)) : Option A := match zeroA P t with
  | some zs => (match fillA ((List.range n).map fun i => (i * sz, sz)) zs parts with | some ys => some (.agg ys) | none => none)
  | none => none
theorem ObA {P : Program} {o : Oper} {st : St} {t e n sz : Nat} {parts : List (Nat × Operand)} {z : A} (ho : o.op = .build t parts.toArray) (hu : P.underlying t = some (.array n e)) (hi : (P.info? e).map (·.size) = some sz) (h : buildArr P t n sz (partsA st parts) = some z := by kernel_rfl) : OpRun P o st (partLocs parts) z [] := by
  unfold buildArr at h
  split at h
  case h_2 => cases h
  rename_i zs hz
  split at h
  case h_2 => cases h
  rename_i ys hf
  cases h
  refine .pure fun st' hag cx m S a w hs => ?_
  obtain ⟨i, z, hi', hzz, h1, rfl⟩ := zeroA_spec hz
  obtain ⟨j, hj, hjs⟩ : ∃ j, P.info? e = some j ∧ j.size = sz := by
    cases hx : P.info? e with
    | none => rw [hx] at hi; cases hi
    | some j => rw [hx] at hi; exact ⟨j, rfl, by simpa using hi⟩
  obtain ⟨cells, h2, h3, h4⟩ := fill_spec (m := m) (S := S) (w := w) (pl := fun i => some (i * sz, sz)) (fun i q h => by
    obtain ⟨hl, h⟩ := List.getElem?_eq_some_iff.1 h
    rw [List.getElem_map, List.getElem_range] at h
    rw [h]) (vparts := parts.map fun p => (p.1, a.eval p.2)) hf (litAs_rep z.cells.toList) h1 (by simp [partsA]) (parts_reps (fun _ h => h) hag hs)
  refine ⟨.agg cells, ?_, by simp only [Rep]; exact ⟨_, rfl, h3⟩⟩
  have e' : (parts.toArray.map fun p : Nat × Operand => (p.1, a.eval p.2)).toList = parts.map fun p => (p.1, a.eval p.2) := by simp
  simp only [execOp, ho, Instr.build, Sem.run_bind]
  simp only [zeroValue, typeInfo, hi', hzz, Sem.run_bind, run_program, Result.andThen_ok, Sem.run_pure, run_underlying hu, sizeOf, hj, hjs]
  erw [e', h2]
  rfl
end Go.Proofs.Ytcpageegmpjkiaa.K

namespace Go.Proofs.Ytcpageegmpjkiaa.K
open Go.RowKit Go.Lib

/-! ### equality of whatever is plain cells -/
section
variable {P : Program}
def partW (P : Program) (t : TypeId) (xs : List Value) (off : Nat) : Option Value := match P.underlying t with
  | some (.struct _) => (match P.info? t with | some i => some (.agg ((xs.drop off).take i.size).toArray) | none => none)
  | some (.array _ _) => (match P.info? t with | some i => some (.agg ((xs.drop off).take i.size).toArray) | none => none)
  | some _ => xs[off]?
  | none => none
theorem extract_eq (xs : List Value) (a n : Nat) : xs.toArray.extract a (a + n) = ((xs.drop a).take n).toArray := by
  apply Array.ext'
  rw [Array.toList_extract]
  simp [List.extract]
theorem partW_run {t : TypeId} {xs : List Value} {off : Nat} {v : Value} (h : partW P t xs off = some v) (w : World) : (part t xs.toArray off).run P w = .ok v w := by
  unfold partW at h
  cases hu : P.underlying t with
  | none => rw [hu] at h; cases h
  | some d =>
    rw [hu] at h
    cases d with
    | struct fs =>
      simp only at h
      cases hi : P.info? t with
      | none => rw [hi] at h; cases h
      | some i => rw [hi] at h; cases h; simp [part, isAgg, run_underlying hu, sizeOf, typeInfo, hi, extract_eq]
    | array n e =>
      simp only at h
      cases hi : P.info? t with
      | none => rw [hi] at h; cases h
      | some i => rw [hi] at h; cases h; simp [part, isAgg, run_underlying hu, sizeOf, typeInfo, hi, extract_eq]
    | _ => simp only at h; simp [part, isAgg, run_underlying hu, h]
def eqFs (P : Program) (g : TypeId → Value → Value → Option Bool) (xs ys : List Value) : List Field → Option Bool
  | [] => some true
  | f :: fs => match decide (f.name ≠ "_"), partW P f.type xs f.offset, partW P f.type ys f.offset with
    | true, some a, some b => match g f.type a b, eqFs P g xs ys fs with
      | some r, some s => some (r && s)
      | _, _ => none
    | _, _, _ => none
def eqIs (P : Program) (g : TypeId → Value → Value → Option Bool) (e c : Nat) (xs ys : List Value) : List Nat → Option Bool
  | [] => some true
  | i :: is => match partW P e xs (i * c), partW P e ys (i * c) with
    | some a, some b => match g e a b, eqIs P g e c xs ys is with
      | some r, some s => some (r && s)
      | _, _ => none
    | _, _ => none
def eqD (P : Program) : Nat → TypeId → Value → Value → Option Bool
  | 0, _, _, _ => none
  | d + 1, t, a, b => match P.underlying t with
    | some (.struct fs) => (match a, b, P.stoodInHeld t with
      | .agg xs, .agg ys, false => eqFs P (eqD P d) xs.toList ys.toList fs.toList
      | _, _, _ => none)
    | some (.array n e) => (match a, b, P.info? e with
      | .agg xs, .agg ys, some i => eqIs P (eqD P d) e i.size xs.toList ys.toList (List.range n)
      | _, _, _ => none)
    | _ => scalEq P t a b
theorem eqFs_run {g : TypeId → Value → Value → Option Bool} {d : Nat} (hg : ∀ t a b r, g t a b = some r → ∀ w, (Op.equalIn d t a b).run P w = .ok r w) {xs ys : List Value} (w : World) : ∀ {fs : List Field} {r : Bool}, eqFs P g xs ys fs = some r → (Op.eqFields d xs.toArray ys.toArray fs).run P w = .ok r w
  | [], r, h => by cases h; simp [Op.eqFields]
  | f :: fs, r, h => by
    unfold eqFs at h
    split at h
    · next a b hn ha hb =>
      split at h
      · next q s hq hs =>
        cases h
        have ih := eqFs_run hg w hs
        simp only [Op.eqFields, if_pos (of_decide_eq_true hn), Sem.run_bind, partW_run ha, partW_run hb, Result.andThen_ok, hg _ _ _ _ hq]
        cases q
        · simp
        · simp [ih]
      · cases h
    · cases h
theorem eqIs_run {g : TypeId → Value → Value → Option Bool} {d e c : Nat} (hg : ∀ t a b r, g t a b = some r → ∀ w, (Op.equalIn d t a b).run P w = .ok r w) {xs ys : List Value} (w : World) : ∀ {is : List Nat} {r : Bool}, eqIs P g e c xs ys is = some r → (Op.eqItems d e c xs.toArray ys.toArray is).run P w = .ok r w
  | [], r, h => by cases h; simp [Op.eqItems]
  | i :: is, r, h => by
    unfold eqIs at h
    split at h
    · next a b ha hb =>
      split at h
      · next q s hq hs =>
        cases h
        have ih := eqIs_run hg w hs
        simp only [Op.eqItems, Sem.run_bind, partW_run ha, partW_run hb, Result.andThen_ok, hg _ _ _ _ hq]
        cases q
        · simp
        · simp [ih]
      · cases h
    · cases h
theorem eqD_run : ∀ (k : Nat) (t : TypeId) (a b : Value) (r : Bool), eqD P k t a b = some r → ∀ (d : Nat) (w : World), (Op.equalIn (d + k) t a b).run P w = .ok r w
  | 0, _, _, _, _, h, _, _ => by cases h
  | k + 1, t, a, b, r, h, d, w => by
    have ih : ∀ t a b r, eqD P k t a b = some r → ∀ w, (Op.equalIn (d + k) t a b).run P w = .ok r w := fun t a b r h w => eqD_run k t a b r h d w
    unfold eqD at h
    cases hu : P.underlying t with
    | none => rw [hu] at h; exact scalEq_run h (d + k) w
    | some ds =>
      rw [hu] at h
      cases ds with
      | struct fs =>
        simp only at h
        split at h
        · next xs ys hs =>
          have hf : P.fieldsOf t = fs := by simp [Program.fieldsOf, hu]
          rw [show d + (k + 1) = d + k + 1 from rfl, run_equalIn_struct w (d + k) t _ _ (by rw [hf]; exact hu) hs, hf]
          exact eqFs_run ih w h
        · cases h
      | array n e =>
        simp only at h
        split at h
        · next xs ys i hi =>
          rw [show d + (k + 1) = d + k + 1 from rfl, run_equalIn_array w (d + k) _ _ hu hi]
          have : P.cellsOf e = i.size := by simp [Program.cellsOf, hi]
          rw [this]
          exact eqIs_run ih w h
        · cases h
      | _ => exact scalEq_run h (d + k) w
end
section
variable {P : Program} {o : Oper} {st : St}
/-! ### nil -/
theorem Ocn {t : TypeId} {x hi : Operand} {k : IntKind} (ho : o.op = .slice t x none (some hi) none) (he : (sliceElem P t).isSome = true) (hx : opA st x = .d .nil := by kernel_rfl) (hh : opA st hi = .d (.lit (.int k 0)) := by kernel_rfl) : OpRun P o st (locsOf [x, hi]) (.d .nil) [] := by
  refine .pure fun st' hag cx m S a w hs => ?_
  have e1 := op_rep hx (R := locsOf [x, hi]) (fun l h => by simp [locsOf, h]) hag hs
  have e2 := op_lit hh (R := locsOf [x, hi]) (fun l h => by simp [locsOf, h]) hag hs
  simp only [Rep, RepD] at e1
  obtain ⟨⟨e, sz⟩, he⟩ := Option.isSome_iff_exists.1 he
  have := run_slice (P := P) (w := w) ho he e1 (lo := none) (hi := some hi) (l := 0) (h := 0) rfl ⟨k, e2⟩ (Nat.le_refl _) (Nat.le_refl _)
  exact ⟨_, this, by simp only [Rep, RepD]; rfl⟩
theorem Ocap {t e : TypeId} {x : Operand} (ho : o.op = .call ⟨.builtin .cap, #[x], #[t]⟩) (hu : P.underlying t = some (.slice e)) (hx : opA st x = .d .nil := by kernel_rfl) : OpRun P o st (locOf x) (.d (.lit (.int .i64 0))) [] := by
  refine .pure fun st' hag cx m S a w hs => ⟨.int .i64 0, ?_, by simp only [Rep]; unfold RepD; exact ⟨rfl, rfl⟩⟩
  have e1 := op_rep hx (R := locOf x) (fun l h => h) hag hs
  simp only [Rep, RepD] at e1
  simp [execOp, ho, resolve, invoke, builtin, Builtin.cap_, run_underlying hu, e1, goInt]
/-- zeros appended to nil: a new row. -/
theorem OapZ {t tn e sz by_ nid n : Nat} {z : Value} {s x : Operand} {kq kn : IntKind} {L : Int} (ho : o.op = .call ⟨.builtin .append, #[s, x], #[t, tn]⟩) (E : ElemOK P t e sz by_ z) (htn : P.underlying tn = some (.int kn)) (hone : z.cells.toList.all (·.oneCell') = true) (hL : L = (n : Int)) (h0 : 0 < n) (hn : n ≤ 1000000000) (hb : Nat.ble by_ 140000 = true := by rfl)
    (hs0 : opA st s = .d .nil := by kernel_rfl) (hx : opA st x = .d (.lit (.int kq L)) := by kernel_rfl) (hnid : st.H.getD nid .unborn = .unborn := by kernel_rfl) :
    OpRun P o st (locsOf [s, x] ++ [.blk nid]) (.own nid) [(nid, .arr e sz n (List.replicate n (z.cells.toList.map litD)).flatten)] := by
  refine .value fun st' hag cx m S a w hs => ?_
  have hnid' : st'.H.getD nid .unborn = .unborn := (blk1 (by simp) hag).trans hnid
  have e1 := op_rep hs0 (R := locsOf [s, x] ++ [.blk nid]) (fun l h => by simp [locsOf, h]) hag hs
  have e2 := op_lit hx (R := locsOf [s, x] ++ [.blk nid]) (fun l h => by simp [locsOf, h]) hag hs
  simp only [Rep, RepD] at e1
  obtain ⟨i, hi, hz, h4, h5⟩ := E.parts
  have hb' : by_ ≤ 140000 := Nat.le_of_ble_eq_true hb
  have hbytes : n * by_ ≤ 140000000000000 := Nat.le_trans (Nat.mul_le_mul hn hb') (by decide)
  have hrun := run_append_nil_zeros (P := P) w t tn o.type e i z kq kn E.slice htn hi hz n h0 (by rw [h4]; exact E.pos) (by omega) (by rw [h5]; omega)
  have hz1 := E.zs
  have h1 : ones z.cells.toList := fun v hv => List.all_eq_true.1 hone v hv
  have hge := grownCap_ge w n 0 e
  have hcm := grownCap_le_maxLen w n 0 e (by unfold maxLen; omega)
  generalize hcp : grownCap w n 0 e = cp at hge hcm hrun
  have fl : ∀ k, (Builtin.zeroCells z.cells k).toList = (List.replicate k z.cells.toList).flatten := fun k => made_flat z.cells k (by rw [hz1]; exact E.pos)
  have hflat : (Builtin.zeroCells z.cells n ++ Builtin.zeroCells z.cells (cp - n)).toList = (List.replicate cp z.cells.toList).flatten := by
    rw [Array.toList_append, fl, fl, ← List.flatten_append, List.replicate_append_replicate]
    congr 2; omega
  have hmem : ∀ v ∈ (List.replicate n z.cells.toList).flatten, v.oneCell' = true := fun v hv => by
    obtain ⟨l, hl, hv⟩ := List.mem_flatten.1 hv
    rw [(List.mem_replicate.1 hl).2] at hv
    exact h1 v hv
  have hlen : (Builtin.zeroCells z.cells n ++ Builtin.zeroCells z.cells (cp - n)).size = cp * sz := by
    rw [Array.size_append, size_zeroCells, size_zeroCells, hz1, ← Nat.add_mul]; congr 1; omega
  have hul : (List.replicate n z.cells.toList).flatten.length = n * sz := by rw [List.length_flatten, List.map_replicate, List.sum_replicate_nat, Array.length_toList, hz1]
  have hd := hs.hold.drew
  obtain ⟨m', k1, k2, k3, k4⟩ := hold_row (e := e) (sz := sz) (n := n) (cap := cp) (ds := (List.replicate n (z.cells.toList.map litD)).flatten) (us := (List.replicate n z.cells.toList).flatten) (cur := Builtin.zeroCells z.cells n ++ Builtin.zeroCells z.cells (cp - n)) hd hnid'
    ⟨by rw [List.length_flatten, List.length_flatten, List.map_replicate, List.map_replicate, List.length_map], fun j x v hx hv => by
      have : (List.replicate n (z.cells.toList.map litD)).flatten = ((List.replicate n z.cells.toList).flatten).map litD := by rw [List.map_flatten, List.map_replicate]
      rw [this, List.getElem?_map, hv] at hx
      cases hx
      exact litD_rep (hmem v (List.mem_of_getElem? hv))⟩ hmem hul hge hcm hlen (by
        have := take_rep (zs := z.cells.toList) hge
        rw [Array.length_toList, hz1] at this
        rw [hflat]; first | exact this | (rw [hul]; exact this))
  refine ⟨_, _, m', S, ?_, k1, fun _ h => h, fun b hb => k2 b hb, k3, k4 _⟩
  subst hL
  simp [execOp, ho, resolve, invoke, builtin, e1, e2, hrun]
/-! ### a row's mark -/
/-- A load from an array's cells, the place given by a number. -/
theorem OldD {t : TypeId} {x : Operand} {z : A} {id off : Nat} {cs xs : List A} (ho : o.op = .load t x) (hx : opA st x = .loc id off) (hb : st.H.getD id .unborn = .box cs) (hcs : cs = xs) (h : loadA P t xs off = some z) : OpRun P o st (locOf x ++ locA (opA st x)) z [] :=
  Old ho (by unfold loadOf; rw [hx]; simp only [cellsAt, hb, hcs]; exact h)
/-! ### an array's cells as a slice -/
end
end Go.Proofs.Ytcpageegmpjkiaa.K

namespace Go.Proofs.Ytcpageegmpjkiaa.K
open Go.RowKit Go.Lib
section
variable {P : Program} {o : Oper} {st : St}
end
end Go.Proofs.Ytcpageegmpjkiaa.K

namespace Go.Proofs.Ytcpageegmpjkiaa.K
open Go.RowKit Go.Lib
abbrev W6 (n : Int) : Int := IntKind.i64.wrap n
abbrev W7 (n : Int) : Int := IntKind.u64.wrap n
abbrev A.u (n : Int) : A := .d (.lit (.int .u64 n))
abbrev Ar {α : Type} (e sz : Nat) (enc : α → List D) (l : List α) : Blk := .arr e sz (List.length l) (flatD enc l)
section
variable {P : Program} {ops : Array Oper} {K : St → List Ef → Prop} {o : Oper} {l : List Oper} {st : St} {F : List Ef}
theorem Wz (val : A) {R : List Loc} (hop : OpRun P o st R val []) (h : Walk P ops K l (st.put o.dst val []) (F ++ [⟨o.dst, val, [], gLoc ops o ++ R⟩])) (hg : gYes ops st o = true := by kernel_rfl) : Walk P ops K (o :: l) st F := Walk.yes hg hop h
theorem Wm (val : A) {x : Operand} (ho : mvOf o.op = some x) (h : Walk P ops K l (st.put o.dst val []) (F ++ [⟨o.dst, val, [], gLoc ops o ++ locOf x⟩])) (hv : opA st x = val := by kernel_rfl) (hg : gYes ops st o = true := by kernel_rfl) : Walk P ops K (o :: l) st F := Walk.yes hg ((op_move ho).cast hv) h
/-- The same, the bit being known. -/
theorem Oq {x : Operand} {b c : Bool} (hb : b = c) (ho : mvOf o.op = some x) (hv : opA st x = .d (.lit (.bool b)) := by kernel_rfl) : OpRun P o st (locOf x) (.d (.lit (.bool c))) [] := Ocs (lit_tf hb) (Omv ho hv)
theorem Ob2 {op : BinOp} {t u : TypeId} {x y : Operand} {v : Value} {val : A} (a1 a2 : Value) (ho : o.op = .binOp op t x y u) (hrun : ∀ w, (do eqGuard op t x y a1 a2; binOp op t a1 a2 : Sem Value).run P w = .ok v w)
    (e : A.d (.lit v) = val := by kernel_rfl) (hx : opA st x = .d (.lit a1) := by kernel_rfl) (hy : opA st y = .d (.lit a2) := by kernel_rfl) (h1 : v.oneCell' = true := by rfl) : OpRun P o st (locsOf [x, y]) val [] := Ocs e (op_bin ho hx hy hrun h1)
theorem Oc2 {s t : TypeId} {x : Operand} {v : Value} {val : A} (a1 : Value) (ho : o.op = .convert s t x) (hrun : ∀ w, (convert s t a1).run P w = .ok v w) (e : A.d (.lit v) = val := by kernel_rfl) (hx : opA st x = .d (.lit a1) := by kernel_rfl) (h1 : v.oneCell' = true := by rfl) :
    OpRun P o st (locOf x) val [] := Ocs e (op_convert ho hx hrun h1)
theorem Wn0 (h : K st F) : Walk P ops K [] st F := h
end
section
variable {P : Program} {K : Exit → St → Prop} {b c x y : Code} {st : St} {id : Nat} {l : List Oper} {F : List Ef} {ops : Array Oper} {q : Operand} {z : Bool}
theorem AiT (hz : z = true) (h : AWP P K x st) (hc : opA st q = .d (.lit (.bool z)) := by kernel_rfl) : AWP P K (.cond q x y) st := AWP.if_ true (Eq.trans hc (lit_tf hz)) h
theorem AiF (hz : z = false) (h : AWP P K y st) (hc : opA st q = .d (.lit (.bool z)) := by kernel_rfl) : AWP P K (.cond q x y) st := AWP.if_ false (Eq.trans hc (lit_tf hz)) h
theorem Sq (h : AWP P (Then P K c) b st) : AWP P K (.seq b c) st := AWP.seq h
theorem Tx (h : Walk P l.toArray (fun st' _ => K .normal st') l st []) : AWP P K (.region id l.toArray false) st := AWP.text h
theorem Sx (h : Walk P l.toArray (fun st' _ => Then P K c .normal st') l st []) : AWP P K (.seq (.region id l.toArray false) c) st := AWP.seq (AWP.text h)
theorem Tn (h : AWP P K b st) : Then P K b .normal st := h
theorem Nn (h : AWP P K b st) : Walk P ops (fun st' _ => Then P K b .normal st') [] st F := h
theorem Nk (ks kb : Nat) (st' : St) (h : AWP P K b st') (e : (⟨maskE ks 0 0 st.env, maskH kb 0 st.H, st.k⟩ : St) = st' := by kernel_rfl) : Walk P ops (fun st' _ => Then P K b .normal st') [] st F := Amk ks kb st' h e
theorem Tk (ks kb : Nat) (st' : St) (h : AWP P K b st') (e : (⟨maskE ks 0 0 st.env, maskH kb 0 st.H, st.k⟩ : St) = st' := by kernel_rfl) : Then P K b .normal st := Amk ks kb st' h e
theorem Rt (h : K .ret st) : AWP P K .ret st := AWP.ret h
theorem Sk (h : K .normal st) : AWP P K .skip st := AWP.skip h
theorem Bk (h : AWP P (InBlock id K) b st) : AWP P K (.block id b) st := AWP.block h
theorem Ir {id : Nat} (h : K .ret st) : InBlock id K .ret st := h
theorem Ino {id : Nat} (h : K .normal st) : InBlock id K .normal st := h
theorem Tr (h : K .ret st) : Then P K b .ret st := h
end
end Go.Proofs.Ytcpageegmpjkiaa.K

namespace Go.Proofs.Ytcpageegmpjkiaa.K
open Go.RowKit Go.Lib

/-! ### plain: a map as a list of pairs -/
section
variable {K V : Type} [DecidableEq K]
def mlook : List (K × V) → K → Option V
  | [], _ => none
  | p :: l, k => if p.1 = k then some p.2 else mlook l k
def mput : List (K × V) → K → V → List (K × V)
  | [], k, v => [(k, v)]
  | p :: l, k, v => if p.1 = k then (k, v) :: l else p :: mput l k v
def mdel : List (K × V) → K → List (K × V)
  | [], _ => []
  | p :: l, k => if p.1 = k then l else p :: mdel l k
def mpos : List (K × V) → K → Option Nat
  | [], _ => none
  | p :: l, k => if p.1 = k then some 0 else (mpos l k).map (· + 1)
def mks (kv : K → Value) (l : List (K × V)) : List Value := l.map fun p => kv p.1
def mds (ev : V → D) (l : List (K × V)) : List D := l.map fun p => ev p.2
def ml (o : Option (List (K × V))) : List (K × V) := o.getD []
theorem mpos_some : ∀ {l : List (K × V)} {k : K} {i : Nat}, mpos l k = some i → ∃ p, l[i]? = some p ∧ p.1 = k ∧ mlook l k = some p.2 ∧ (∀ v, mput l k v = l.set i (k, v)) ∧ mdel l k = l.eraseIdx i
  | [], k, i, h => by cases h
  | p :: l, k, i, h => by
    unfold mpos at h
    by_cases e : p.1 = k
    · rw [if_pos e] at h; cases h
      exact ⟨p, rfl, e, by simp [mlook, e], fun v => by simp [mput, e], by simp [mdel, e]⟩
    · rw [if_neg e] at h
      cases hm : mpos l k with
      | none => rw [hm] at h; cases h
      | some j =>
        rw [hm] at h; cases h
        obtain ⟨q, h1, h2, h3, h4, h5⟩ := mpos_some hm
        exact ⟨q, by simpa using h1, h2, by simp [mlook, e, h3], fun v => by simp [mput, e, h4], by simp [mdel, e, h5]⟩
theorem mpos_none : ∀ {l : List (K × V)} {k : K}, mpos l k = none → mlook l k = none ∧ (∀ v, mput l k v = l ++ [(k, v)]) ∧ mdel l k = l
  | [], k, h => ⟨rfl, fun _ => rfl, rfl⟩
  | p :: l, k, h => by
    unfold mpos at h
    by_cases e : p.1 = k
    · rw [if_pos e] at h; cases h
    · rw [if_neg e] at h
      cases hm : mpos l k with
      | none => obtain ⟨h1, h2, h3⟩ := mpos_none hm; exact ⟨by simp [mlook, e, h1], fun v => by simp [mput, e, h2], by simp [mdel, e, h3]⟩
      | some j => rw [hm] at h; cases h
end
/-- A slice as a map's element. -/
def slD {α : Type} (enc : α → List D) (l : List α) : D := .sl (List.length l) (flatD enc l)
theorem slD_zero {α : Type} {enc : α → List D} (S : Nat → Prop) (w : World) : RepD S w (slD enc []) (.slice none 0 0) := by
  unfold slD
  simp only [List.length_nil]
  rw [show flatD enc [] = [] from rfl]
  simp only [RepD]
  exact ⟨none, 0, rfl, Nat.le_refl _, Nat.zero_le _, fun _ => by simp, by simp only [RepDs]⟩
/-! ### a map's block -/
theorem RepVs.iff {S : Nat → Prop} {w : World} : ∀ {cs : List D} {vs : List Value}, RepVs S w cs vs ↔ RepsD S w cs vs
  | [], vs => by
    simp only [RepVs]
    exact ⟨fun h => by subst h; exact ⟨rfl, fun i x v hx => by simp at hx⟩, fun h => List.eq_nil_of_length_eq_zero (by simpa using h.1)⟩
  | c :: cs, vs => by
    simp only [RepVs]
    constructor
    · rintro ⟨v, r, rfl, h1, h2⟩
      have ih := RepVs.iff.1 h2
      refine ⟨by simp [ih.1], fun i x u hx hu => ?_⟩
      cases i with
      | zero => simp at hx hu; subst hx; subst hu; exact h1
      | succ i => exact ih.2 i x u (by simpa using hx) (by simpa using hu)
    · rintro ⟨h1, h2⟩
      cases vs with
      | nil => simp at h1
      | cons v r => exact ⟨v, r, rfl, h2 0 c v rfl rfl, RepVs.iff.2 ⟨by simpa using h1, fun i x u hx hu => h2 (i + 1) x u (by simpa using hx) (by simpa using hu)⟩⟩
def mapAt (H : List Blk) : A → Option (List Value × List D)
  | .own id => match H.getD id .unborn with
    | .mp ks cs => some (ks, cs)
    | _ => none
  | .d (.mp _ ks cs) => some (ks, cs)
  | _ => none
theorem mapA_agree {st st' : St} {y : A} (h : ∀ l ∈ locA y, st'.at l = st.at l) : mapAt st'.H y = mapAt st.H y := by
  cases y with
  | own id =>
    have := blk_agree (st := st) (st' := st') (ids := [id]) (by simpa [blks, locA] using h) (id := id) (by simp)
    simp only [mapAt, this]
  | d x => cases x <;> rfl
  | _ => rfl
def MapIs (S : Nat → Prop) (w : World) (v : Value) (ks : List Value) (cs : List D) : Prop :=
  (v = .map none ∧ ks = [] ∧ cs = []) ∨ ∃ b es ck, v = .map (some b) ∧ w.heap[b]? = some (.map es ck) ∧ StampsOK es.toList ck ∧ es.toList.map (·.key) = ks ∧ RepVs S w cs (es.toList.map (·.val))
theorem mapAt_spec {cx : Cx} {m : Mp} {S : Nat → Prop} {w : World} {H : List Blk} (h : Hold cx m S w H) {y : A} {v : Value} {ks : List Value} {cs : List D} (hc : mapAt H y = some (ks, cs)) (hv : Rep m S w y v) : MapIs S w v ks cs := by
  cases y with
  | own id =>
    simp only [mapAt] at hc
    have hok := h.ok id
    cases hb : H.getD id .unborn with
    | mp ks' cs' =>
      rw [hb] at hc hok; cases hc
      obtain ⟨b, es, ck, h1, h2, h3, h4, h5, h6⟩ := hok
      simp only [Rep, h1] at hv
      exact .inr ⟨b, es, ck, hv, h2, h3, h4, h5⟩
    | _ => rw [hb] at hc; cases hc
  | d x =>
    cases x with
    | mp nl ks' cs' =>
      cases hc
      simp only [Rep, RepD] at hv
      rcases hv with ⟨_, h1, h2, h3⟩ | ⟨_, b, es, ck, h1, _, h2, h3, h4, h5⟩
      · exact .inl ⟨h1, h2, h3⟩
      · exact .inr ⟨b, es, ck, h1, h2, h3, h4, h5⟩
    | _ => cases hc
  | _ => cases hc
structure KeyOK {K : Type} [DecidableEq K] (P : Program) (kt : TypeId) (kv : K → Value) : Prop where
  run : ∀ (x y : K) (w : World), (Op.equal kt (kv x) (kv y)).run P w = .ok (decide (y = x)) w
  check : ∀ (x : K) (em : Bool) (w : World), (Instr.checkKey em 10000 kt (kv x)).run P w = .ok () w
  stays : ∀ (x : K) (w : World), (Instr.keyThatStays (kv x) (kv x)).run P w = .ok (kv x) w
  under : ∃ n e, P.underlying kt = some (.array n e)
section
variable {P : Program} {K V : Type} [DecidableEq K] {kv : K → Value} {kt : TypeId}
theorem run_findAsking (hk : KeyOK P kt kv) (k : K) (w : World) : ∀ (es : List MapEntry) (l : List (K × V)) (i : Nat), es.map (·.key) = mks kv l →
    (Instr.findAsking kt (kv k) es i).run P w = .ok (match mpos l k with | none => none | some j => (es[j]?).map fun e => (i + j, e.val)) w
  | [], l, i, h => by
    have : l = [] := by cases l with | nil => rfl | cons p l => simp [mks] at h
    subst this; rfl
  | e :: es, [], i, h => by simp [mks] at h
  | e :: es, p :: l, i, h => by
    simp only [mks, List.map_cons, List.cons.injEq] at h
    have ih := run_findAsking hk k w es l (i + 1) h.2
    simp only [Instr.findAsking, Sem.run_bind, h.1, hk.run, Result.andThen_ok]
    by_cases e1 : p.1 = k
    · simp [e1, mpos]
    · simp only [e1, decide_false, mpos, if_false]
      erw [ih]
      cases mpos l k with
      | none => rfl
      | some j =>
        simp only [Option.map_some, List.getElem?_cons_succ]
        congr 2
        funext e
        rw [show i + 1 + j = i + (j + 1) by omega]
theorem run_findKey (hk : KeyOK P kt kv) (k : K) (w : World) {es : List MapEntry} {l : List (K × V)} (h : es.map (·.key) = mks kv l) :
    (Instr.findKey kt (kv k) es).run P w = .ok (match mpos l k with | none => none | some j => (es[j]?).map fun e => (j, e.val)) w := by
  obtain ⟨n, e, hu⟩ := hk.under
  have := run_findAsking hk k w es l 0 h
  simp only [Nat.zero_add] at this
  cases es with
  | nil =>
    have : l = [] := by cases l with | nil => rfl | cons p l => simp [mks] at h
    subst this
    simp [Instr.findKey, run_underlying hu, Instr.findNow, mpos]
  | cons e es => simp [Instr.findKey, run_underlying hu, Instr.findNow, Instr.sameNow, this]
end
theorem map_get {K V : Type} {ev : V → D} {S : Nat → Prop} {w : World} {es : List MapEntry} {l : List (K × V)} (h : RepVs S w (mds ev l) (es.map (·.val))) {i : Nat} {p : K × V} (hp : l[i]? = some p) : ∃ e, es[i]? = some e ∧ RepD S w (ev p.2) e.val := by
  obtain ⟨h1, h2⟩ := RepVs.iff.1 h
  have hi : i < l.length := (List.getElem?_eq_some_iff.1 hp).1
  have hi' : i < es.length := by simp [mds] at h1; omega
  refine ⟨es[i], List.getElem?_eq_getElem hi', h2 i _ _ (by simp [mds, hp]) (by simp [List.getElem?_eq_getElem hi'])⟩
section
variable {P : Program} {o : Oper} {st : St} {K V : Type} [DecidableEq K] {kv : K → Value} {ev : V → D} {kt : TypeId}
theorem run_lookup (hk : KeyOK P kt kv) {t e : TypeId} (hu : P.underlying t = some (.map kt e)) {z : Value} {z0 : V} (hz : zeroOf P e = some z) {S : Nat → Prop} {w : World} (hzd : RepD S w (ev z0) z) {v : Value} {l : List (K × V)} (hm : MapIs S w v (mks kv l) (mds ev l)) (k : K) (ok : Bool) :
    ∃ u, (Instr.lookup t v (kv k) ok).run P w = .ok (if ok then .tuple #[u, .bool (mlook l k).isSome] else u) w ∧ RepD S w (ev ((mlook l k).getD z0)) u := by
  have hzr := run_zero hz w
  rcases hm with ⟨rfl, h1, h2⟩ | ⟨b, es, ck, rfl, h2, h3, h4, h5⟩
  · have : l = [] := by cases l with | nil => rfl | cons p l => simp [mks] at h1
    subst this
    have hf := run_findKey hk k w (es := []) (l := ([] : List (K × V))) rfl
    refine ⟨z, ?_, hzd⟩
    cases ok <;> simp [Instr.lookup, run_underlying hu, hk.check, hf, mpos, hzr, mlook]
  · have hf := run_findKey hk k w h4
    cases hp : mpos l k with
    | none =>
      obtain ⟨q1, _, _⟩ := mpos_none hp
      rw [q1]
      refine ⟨z, ?_, hzd⟩
      simp only [hp] at hf
      cases ok <;> simp [Instr.lookup, run_underlying hu, MapKept.run_getObj_map h2, hk.check, hf, hzr]
    | some i =>
      obtain ⟨p, q1, q2, q3, _, _⟩ := mpos_some hp
      obtain ⟨en, q4, q5⟩ := map_get h5 q1
      rw [q3]
      refine ⟨en.val, ?_, q5⟩
      simp only [hp, q4, Option.map_some] at hf
      cases ok <;> simp [Instr.lookup, run_underlying hu, MapKept.run_getObj_map h2, hk.check, hf]
/-- 'm[k]'. -/
theorem Olk (k : K) (l : List (K × V)) (z0 : V) (hk : KeyOK P kt kv) {t e : TypeId} {x i : Operand} {z : Value} {als : List A} {us : List Value} (ho : o.op = .lookup t x i false) (hzd : ∀ (S : Nat → Prop) (w : World), RepD S w (ev z0) z) (hu : P.underlying t = some (.map kt e) := by kernel_rfl) (hz : zeroOf P e = some z := by kernel_rfl)
    (hx : mapAt st.H (opA st x) = some (mks kv l, mds ev l) := by kernel_rfl) (hi : opA st i = .agg als := by kernel_rfl) (hl : litsOf als = some us := by kernel_rfl) (hkv : Value.agg us.toArray = kv k := by kernel_rfl) : OpRun P o st (locsOf [x, i] ++ locA (opA st x)) (.d (ev ((mlook l k).getD z0))) [] := by
  refine .pure fun st' hag cx m S a w hs => ?_
  have hr := op_rep (x := x) rfl (R := locsOf [x, i] ++ locA (opA st x)) (fun l h => by simp [locsOf, h]) hag hs
  have hix := op_agg_lits hi hl (R := locsOf [x, i] ++ locA (opA st x)) (fun l h => by simp [locsOf, h]) hag hs
  rw [← mapA_agree fun l h => hag l (by simp [h])] at hx
  obtain ⟨u, h1, h2⟩ := run_lookup hk hu hz (hzd S w) (mapAt_spec hs.hold hx hr) k false
  exact ⟨u, by simp [execOp, ho, hix, hkv, h1], by simp only [Rep]; exact h2⟩
omit [DecidableEq K] in
/-- 'len(m)'. -/
theorem Oml (l : List (K × V)) {t e : TypeId} {x : Operand} (ho : o.op = .call ⟨.builtin .len, #[x], #[t]⟩) (hu : P.underlying t = some (.map kt e) := by kernel_rfl) (hx : mapAt st.H (opA st x) = some (mks kv l, mds ev l) := by kernel_rfl) : OpRun P o st (locsOf [x] ++ locA (opA st x)) (.d (.lit (.int .i64 ((List.length l : Nat) : Int)))) [] := by
  refine .pure fun st' hag cx m S a w hs => ?_
  have hr := op_rep (x := x) rfl (R := locsOf [x] ++ locA (opA st x)) (fun l h => by simp [locsOf, h]) hag hs
  rw [← mapA_agree fun l h => hag l (by simp [h])] at hx
  refine ⟨_, ?_, by simp only [Rep, RepD]; exact ⟨rfl, rfl⟩⟩
  rcases mapAt_spec hs.hold hx hr with ⟨h0, h1, h2⟩ | ⟨b, es, ck, h0, h2, h3, h4, h5⟩
  · have : l = [] := by cases l with | nil => rfl | cons p l => simp [mks] at h1
    subst this
    simp [execOp, ho, resolve, invoke, builtin, Builtin.len_, run_underlying hu, h0, goInt]
  · have hl : es.size = l.length := by have := congrArg List.length h4; simpa [mks] using this
    simp [execOp, ho, resolve, invoke, builtin, Builtin.len_, run_underlying hu, h0, goInt, MapKept.run_getObj_map h2, hl]
/-- 'm == nil'. -/
theorem Omn {b : Bool} {t u : TypeId} {x y : Operand} (ho : o.op = .binOp .eql t x y u) {kt' e : TypeId} (hu : P.underlying t = some (.map kt' e) := by kernel_rfl) {ks : List Value} {cs : List D} (hx : opA st x = .d (.mp b ks cs) := by kernel_rfl) (hy : opA st y = .d (.mp true [] []) := by kernel_rfl) : OpRun P o st (locsOf [x, y]) (.d (.lit (.bool b))) [] := by
  refine .pure fun st' hag cx m S a w hs => ⟨.bool b, ?_, by simp only [Rep]; unfold RepD; exact ⟨rfl, rfl⟩⟩
  have h1 := op_rep hx (R := locsOf [x, y]) (fun l h => by simp [locsOf, h]) hag hs
  have h2 := op_rep hy (R := locsOf [x, y]) (fun l h => by simp [locsOf, h]) hag hs
  simp only [Rep, RepD] at h1 h2
  have h2' : a.eval y = .map none := by rcases h2 with ⟨_, h, _⟩ | ⟨h, _⟩; exact h; cases h
  have hq : (Op.equal t (a.eval x) (.map none)).run P w = .ok b w := by
    unfold Op.equal
    rw [show Op.maxDepth = 9999 + 1 from rfl, Op.equalIn]
    rcases h1 with ⟨rfl, h1, _⟩ | ⟨rfl, b', es, ck, h1, _⟩ <;> rw [h1] <;> simp [run_underlying hu]
  rcases h1 with ⟨rfl, h1, _⟩ | ⟨rfl, b', es, ck, h1, _⟩ <;> rw [h1] at hq <;> simp only [execOp, ho, h1, h2', eqGuard, binOp, Sem.run_bind] <;> simp [hq]
theorem Omo {id : Nat} {t u : TypeId} {x y : Operand} (ho : o.op = .binOp .eql t x y u) {kt' e : TypeId} (hu : P.underlying t = some (.map kt' e) := by kernel_rfl) {ks : List Value} {cs : List D} (hx : opA st x = .own id := by kernel_rfl) (hb : st.H.getD id .unborn = .mp ks cs := by kernel_rfl) (hy : opA st y = .d (.mp true [] []) := by kernel_rfl) : OpRun P o st (locsOf [x, y] ++ [.blk id]) (.d (.lit (.bool false))) [] := by
  refine .pure fun st' hag cx m S a w hs => ⟨.bool false, ?_, by simp only [Rep]; unfold RepD; exact ⟨rfl, rfl⟩⟩
  have h1 := op_rep hx (R := locsOf [x, y] ++ [.blk id]) (fun l h => by simp [locsOf, h]) hag hs
  have h2 := op_rep hy (R := locsOf [x, y] ++ [.blk id]) (fun l h => by simp [locsOf, h]) hag hs
  have hb' : st'.H.getD id .unborn = .mp ks cs := (blk1 (by simp) hag).trans hb
  have hok := hs.hold.ok id
  rw [hb'] at hok
  obtain ⟨b, es, ck, k1, _⟩ := hok
  simp only [Rep, RepD, k1] at h1 h2
  have h2' : a.eval y = .map none := by rcases h2 with ⟨_, h, _⟩ | ⟨h, _⟩; exact h; cases h
  have hq : (Op.equal t (.map (some b)) (.map none)).run P w = .ok false w := by
    unfold Op.equal
    rw [show Op.maxDepth = 9999 + 1 from rfl, Op.equalIn]
    simp [run_underlying hu]
  simp only [execOp, ho, h1, h2', eqGuard, binOp, Sem.run_bind]
  simp [hq]
/-- 'map[K]V{}'. -/
theorem Omm {id : Nat} {t : TypeId} (ho : o.op = .makeMap t none) (hid : st.H.getD id .unborn = .unborn := by kernel_rfl) : OpRun P o st [.blk id] (.own id) [(id, .mp [] [])] := by
  refine .value fun st' hag cx m S a w hs => ?_
  have hid' : st'.H.getD id .unborn = .unborn := (blk1 (by simp) hag).trans hid
  have := hs.hold.alloc hid' (.mp w.heap.size) rfl (.map #[] 0) (.mp [] []) fun hK hLe => ⟨w.heap.size, #[], 0, by simp [updM], heap_alloc_new w _, ⟨by simp, by simp⟩, rfl, by simp [RepVs], fun hS => by have := (hs.hold.s _ hS).2; omega⟩
  refine ⟨_, _, _, S, ?_, this.1, fun _ h => h, this.2.1, this.2.2, by simp [Rep, updM]; rfl⟩
  simp [execOp, ho, Instr.makeMap]
end
end Go.Proofs.Ytcpageegmpjkiaa.K

namespace Go.Proofs.Ytcpageegmpjkiaa.K
open Go.RowKit Go.Lib

theorem vals_modify {es : Array MapEntry} {i : Nat} {f : MapEntry → MapEntry} {β : Type} (g : MapEntry → β) : (es.modify i f).toList.map g = match es[i]? with | some e => (es.toList.map g).set i (g (f e)) | none => es.toList.map g := by
  apply List.ext_getElem?
  intro j
  rw [List.getElem?_map, Array.getElem?_toList, Array.getElem?_modify]
  cases he : es[i]? with
  | none =>
    simp only [List.getElem?_map, Array.getElem?_toList]
    by_cases h : i = j
    · subst h; rw [if_pos rfl, he]; rfl
    · rw [if_neg h]
  | some e =>
    simp only [List.getElem?_set, List.getElem?_map, Array.getElem?_toList]
    by_cases h : i = j
    · subst h
      obtain ⟨hi, he'⟩ := Array.getElem?_eq_some_iff.1 he
      simp [hi, he']
    · simp [h]
theorem RepsD.set {S : Nat → Prop} {w : World} {cs : List D} {vs : List Value} (h : RepsD S w cs vs) (i : Nat) {d : D} {v : Value} (hd : RepD S w d v) : RepsD S w (cs.set i d) (vs.set i v) := by
  refine ⟨by simp [h.1], fun j x u hx hu => ?_⟩
  rw [List.getElem?_set] at hx hu
  by_cases hij : i = j
  · subst hij
    rw [if_pos rfl] at hx hu
    split at hx
    · cases hx
      split at hu
      · cases hu; exact hd
      · cases hu
    · cases hx
  · rw [if_neg hij] at hx hu
    exact h.2 j x u hx hu
theorem RepsD.snoc {S : Nat → Prop} {w : World} {cs : List D} {vs : List Value} (h : RepsD S w cs vs) {d : D} {v : Value} (hd : RepD S w d v) : RepsD S w (cs ++ [d]) (vs ++ [v]) := by
  refine ⟨by simp [h.1], fun j x u hx hu => ?_⟩
  rw [List.getElem?_append] at hx hu
  rw [h.1] at hu
  split at hx
  · rename_i hj; rw [if_pos hj] at hu; exact h.2 j x u hx hu
  · rename_i hj; rw [if_neg hj] at hu
    cases hk : j - cs.length with
    | zero => rw [hk] at hx hu; cases hx; cases hu; exact hd
    | succ k => rw [hk] at hx; simp at hx
theorem RepsD.eraseIdx {S : Nat → Prop} {w : World} {cs : List D} {vs : List Value} (h : RepsD S w cs vs) (i : Nat) : RepsD S w (cs.eraseIdx i) (vs.eraseIdx i) := by
  refine ⟨by simp [List.length_eraseIdx, h.1], fun j x u hx hu => ?_⟩
  rw [List.getElem?_eraseIdx] at hx hu
  split at hx
  · rename_i hj; rw [if_pos hj] at hu; exact h.2 j x u hx hu
  · rename_i hj; rw [if_neg hj] at hu; exact h.2 _ x u hx hu
theorem stamps_push {es : Array MapEntry} {ck : Nat} (h : StampsOK es.toList ck) (k v : Value) : StampsOK (es.push ⟨k, v, ck⟩).toList (ck + 1) := by
  refine ⟨?_, fun e he => ?_⟩
  · rw [Array.toList_push, List.map_append, List.nodup_append]
    refine ⟨h.1, by simp, fun a ha b hb => ?_⟩
    obtain ⟨e, he, rfl⟩ := List.mem_map.1 ha
    simp at hb; subst hb
    have := h.2 e he; omega
  · rw [Array.toList_push] at he
    rcases List.mem_append.1 he with he | he
    · have := h.2 e he; omega
    · simp at he; subst he; exact Nat.lt_succ_self _
theorem stamps_modify {es : Array MapEntry} {ck : Nat} (h : StampsOK es.toList ck) (i : Nat) (f : MapEntry → MapEntry) (hf : ∀ e, (f e).born = e.born) : StampsOK (es.modify i f).toList ck := by
  have e1 : (es.modify i f).toList.map (·.born) = es.toList.map (·.born) := by
    rw [vals_modify]
    split
    · rename_i e he
      rw [hf]
      apply List.ext_getElem?
      intro j
      rw [List.getElem?_set]
      split
      · rename_i hj; subst hj
        obtain ⟨hi, he'⟩ := Array.getElem?_eq_some_iff.1 he
        simp [hi, he']
      · rfl
    · rfl
  refine ⟨by rw [e1]; exact h.1, fun e he => ?_⟩
  have : e.born ∈ (es.modify i f).toList.map (·.born) := List.mem_map_of_mem he
  rw [e1] at this
  obtain ⟨e', h1, h2⟩ := List.mem_map.1 this
  rw [← h2]; exact h.2 e' h1
theorem stamps_erase {es : List MapEntry} {ck : Nat} (h : StampsOK es ck) (i : Nat) : StampsOK (es.eraseIdx i) ck :=
  ⟨by rw [ChangeMaps.map_eraseIdx]; exact h.1.sublist (List.eraseIdx_sublist _ _), fun e he => h.2 e (List.mem_of_mem_eraseIdx he)⟩
/-- An own map's block is written. -/
theorem hold_map {cx : Cx} {m : Mp} {S : Nat → Prop} {w : World} {H : List Blk} (h : Hold cx m S w H) {id b : Nat} (h1 : m id = some (.mp b)) {es : Array MapEntry} {ck : Nat} (h2 : w.heap[b]? = some (.map es ck)) (h6 : ¬ S b)
    {es' : Array MapEntry} {ck' : Nat} {ks : List Value} {cs : List D} (h3 : StampsOK es'.toList ck') (h4 : es'.toList.map (·.key) = ks) (h5 : RepVs S w cs (es'.toList.map (·.val))) :
    Keeps S w { w with heap := w.heap.setIfInBounds b (.map es' ck') } ∧ Hold cx m S { w with heap := w.heap.setIfInBounds b (.map es' ck') } (setAt H id (.mp ks cs)) := by
  have hb : b < w.heap.size := (Array.getElem?_eq_some_iff.1 h2).1
  refine h.write (w' := { w with heap := w.heap.setIfInBounds b (.map es' ck') }) h1 rfl h6 rfl rfl rfl (by simp) (fun k hk hne => by simp [Array.getElem?_setIfInBounds, Ne.symm hne]) (.mp ks cs) fun hK =>
    ⟨b, es', ck', h1, (by rw [Array.getElem?_setIfInBounds, if_pos rfl, if_pos hb]), h3, h4, RepVs.mono (fun _ h => h) hK _ _ h5, h6⟩
section
variable {P : Program} {o : Oper} {st : St} {K V : Type} [DecidableEq K] {kv : K → Value} {ev : V → D} {kt : TypeId}
omit [DecidableEq K] in
theorem mds_set {l : List (K × V)} {i : Nat} {k : K} {v : V} : mds ev (l.set i (k, v)) = (mds ev l).set i (ev v) := by simp [mds, List.map_set]
omit [DecidableEq K] in
theorem mks_set {l : List (K × V)} {i : Nat} {k : K} {v : V} {p : K × V} (hp : l[i]? = some p) (he : p.1 = k) : mks kv (l.set i (k, v)) = mks kv l := by
  simp only [mks, List.map_set]
  apply List.ext_getElem?
  intro j
  rw [List.getElem?_set]
  split
  · rename_i hj; subst hj
    obtain ⟨hi, he'⟩ := List.getElem?_eq_some_iff.1 hp
    simp [hi, he', he]
  · rfl
/-- 'm[k] = v'. -/
theorem Omu (k : K) (v0 : V) (l : List (K × V)) (hk : KeyOK P kt kv) {t e id : TypeId} {mo ko vo : Operand} {als : List A} {us : List Value} (ho : o.op = .mapUpdate t mo ko vo) (hu : P.underlying t = some (.map kt e) := by kernel_rfl)
    (hm : opA st mo = .own id := by kernel_rfl) (hb : st.H.getD id .unborn = .mp (mks kv l) (mds ev l) := by kernel_rfl) (hi : opA st ko = .agg als := by kernel_rfl) (hl : litsOf als = some us := by kernel_rfl) (hkv : Value.agg us.toArray = kv k := by kernel_rfl) (hv : opA st vo = .d (ev v0) := by kernel_rfl) :
    OpRun P o st (locsOf [mo, ko, vo] ++ [.blk id]) (.tup []) [(id, .mp (mks kv (mput l k v0)) (mds ev (mput l k v0)))] := by
  refine .skip fun st' hag cx m S a w hs => ?_
  have hr := op_rep hm (R := locsOf [mo, ko, vo] ++ [.blk id]) (fun l h => by simp [locsOf, h]) hag hs
  have hix := op_agg_lits hi hl (R := locsOf [mo, ko, vo] ++ [.blk id]) (fun l h => by simp [locsOf, h]) hag hs
  have hvr := op_rep hv (R := locsOf [mo, ko, vo] ++ [.blk id]) (fun l h => by simp [locsOf, h]) hag hs
  have hb' : st'.H.getD id .unborn = .mp (mks kv l) (mds ev l) := (blk1 (by simp) hag).trans hb
  have hok := hs.hold.ok id
  rw [hb'] at hok
  obtain ⟨b, es, ck, h1, h2, h3, h4, h5, h6⟩ := hok
  simp only [Rep, h1] at hr hvr
  have hf := run_findKey hk k w h4
  cases hp : mpos l k with
  | none =>
    obtain ⟨_, q2, _⟩ := mpos_none hp
    simp only [hp] at hf
    have hw := hold_map hs.hold h1 h2 h6 (ks := mks kv (mput l k v0)) (cs := mds ev (mput l k v0)) (stamps_push h3 (kv k) (a.eval vo)) (by rw [q2]; simp [mks, h4]) (by
      rw [q2]
      have := RepVs.iff.2 ((RepVs.iff.1 h5).snoc hvr)
      simpa [mds] using this)
    refine ⟨_, m, S, ?_, Le.refl m, fun _ h => h, hw.1, hw.2⟩
    simp [execOp, ho, hr, hix, hkv, Instr.mapUpdate, run_underlying hu, MapKept.run_getObj_map h2, hk.check, hf, MapKept.run_setObj_map _ h2]
  | some i =>
    obtain ⟨p, q1, q2, _, q4, _⟩ := mpos_some hp
    obtain ⟨en, q5, q6⟩ := map_get h5 q1
    simp only [hp, q5, Option.map_some] at hf
    have q5' : es[i]? = some en := by rw [← Array.getElem?_toList]; exact q5
    have hen : en.key = kv k := by
      have := congrArg (fun l => l[i]?) h4
      simp only [mks, List.getElem?_map, q5, q1, Option.map_some, Option.some.injEq] at this
      rw [this, q2]
    have hw := hold_map hs.hold h1 h2 h6 (es' := es.modify i fun e => { e with key := kv k, val := a.eval vo }) (ck' := ck) (ks := mks kv (mput l k v0)) (cs := mds ev (mput l k v0)) (stamps_modify h3 i _ fun _ => rfl) (by
        rw [vals_modify, q5', q4, mks_set q1 q2, ← h4]
        simp only []
        apply List.ext_getElem?
        intro j
        rw [List.getElem?_set]
        split
        · rename_i hj; subst hj
          obtain ⟨hi, he'⟩ := Array.getElem?_eq_some_iff.1 q5'
          simp [hi, he', hen]
        · rfl) (by
        rw [vals_modify, q5', q4, mds_set]
        exact RepVs.iff.2 ((RepVs.iff.1 h5).set i hvr))
    refine ⟨_, m, S, ?_, Le.refl m, fun _ h => h, hw.1, hw.2⟩
    simp [execOp, ho, hr, hix, hkv, Instr.mapUpdate, run_underlying hu, MapKept.run_getObj_map h2, hk.check, hf, q5', hen, hk.stays, MapKept.run_setObj_map _ h2]
/-- 'delete(m, k)'. -/
theorem Omd (k : K) (l : List (K × V)) (hk : KeyOK P kt kv) {t t' e id : TypeId} {mo ko : Operand} {als : List A} {us : List Value} (ho : o.op = .call ⟨.builtin .delete, #[mo, ko], #[t, t']⟩) (hu : P.underlying t = some (.map kt e) := by kernel_rfl)
    (hm : opA st mo = .own id := by kernel_rfl) (hb : st.H.getD id .unborn = .mp (mks kv l) (mds ev l) := by kernel_rfl) (hi : opA st ko = .agg als := by kernel_rfl) (hl : litsOf als = some us := by kernel_rfl) (hkv : Value.agg us.toArray = kv k := by kernel_rfl) :
    OpRun P o st (locsOf [mo, ko] ++ [.blk id]) (.tup []) [(id, .mp (mks kv (mdel l k)) (mds ev (mdel l k)))] := by
  refine .value fun st' hag cx m S a w hs => ?_
  have hr := op_rep hm (R := locsOf [mo, ko] ++ [.blk id]) (fun l h => by simp [locsOf, h]) hag hs
  have hix := op_agg_lits hi hl (R := locsOf [mo, ko] ++ [.blk id]) (fun l h => by simp [locsOf, h]) hag hs
  have hb' : st'.H.getD id .unborn = .mp (mks kv l) (mds ev l) := (blk1 (by simp) hag).trans hb
  have hok := hs.hold.ok id
  rw [hb'] at hok
  obtain ⟨b, es, ck, h1, h2, h3, h4, h5, h6⟩ := hok
  simp only [Rep, h1] at hr
  have hf := run_findKey hk k w h4
  cases hp : mpos l k with
  | none =>
    obtain ⟨_, _, q3⟩ := mpos_none hp
    simp only [hp] at hf
    have hw := hold_map hs.hold h1 h2 h6 (es' := es) (ck' := ck) (ks := mks kv (mdel l k)) (cs := mds ev (mdel l k)) h3 (by rw [q3, h4]) (by rw [q3]; exact h5)
    refine ⟨.tuple #[], _, m, S, ?_, Le.refl m, fun _ h => h, hw.1, hw.2, by simp only [Rep, Reps]; exact ⟨_, rfl, rfl⟩⟩
    simp [execOp, ho, resolve, invoke, builtin, hr, hix, hkv, Builtin.delete_, run_underlying hu, MapKept.run_getObj_map h2, hk.check, hf, MapKept.run_setObj_map _ h2]
  | some i =>
    obtain ⟨p, q1, q2, _, _, q4⟩ := mpos_some hp
    obtain ⟨en, q5, q6⟩ := map_get h5 q1
    simp only [hp, q5, Option.map_some] at hf
    have hi : i < es.size := by have := (List.getElem?_eq_some_iff.1 q5).1; simpa using this
    have he : (es.eraseIdxIfInBounds i).toList = es.toList.eraseIdx i := by simp [Array.eraseIdxIfInBounds, hi]
    have hw := hold_map hs.hold h1 h2 h6 (es' := es.eraseIdxIfInBounds i) (ck' := ck) (ks := mks kv (mdel l k)) (cs := mds ev (mdel l k)) (by rw [he]; exact stamps_erase h3 i) (by
        rw [he, q4, ChangeMaps.map_eraseIdx, h4]; simp only [mks]; rw [ChangeMaps.map_eraseIdx]) (by
        rw [he, q4, ChangeMaps.map_eraseIdx]
        have := RepVs.iff.2 ((RepVs.iff.1 h5).eraseIdx i)
        simp only [mds] at this ⊢
        rw [ChangeMaps.map_eraseIdx]; exact this)
    refine ⟨.tuple #[], _, m, S, ?_, Le.refl m, fun _ h => h, hw.1, hw.2, by simp only [Rep, Reps]; exact ⟨_, rfl, rfl⟩⟩
    simp [execOp, ho, resolve, invoke, builtin, hr, hix, hkv, Builtin.delete_, run_underlying hu, MapKept.run_getObj_map h2, hk.check, hf, MapKept.run_setObj_map _ h2]
end
end Go.Proofs.Ytcpageegmpjkiaa.K

namespace Go.Proofs.Ytcpageegmpjkiaa.K
open Go.RowKit Go.Lib
theorem Hold.below {m : Mp} {S : Nat → Prop} {w w' : World} {hg : GW S w} {hz : ∀ b, S b → b < w.heap.size} (h : Hold (cxOf m S w hg hz) m S w []) (hb : Below w.heap.size w w') : Hold (cxOf m S w hg hz) m S w' [] := by
  refine ⟨hb.os, hb.tape, hb.output, hb.size, fun b hlt _ => hb.block b hlt, h.s0, fun b hs => ?_, fun id p b hm hp => ?_, h.apart, fun id => ?_, h.le⟩
  · have := h.s b hs
    exact ⟨this.1, Nat.lt_of_lt_of_le this.2 hb.size⟩
  · have := h.pl id p b hm hp
    exact ⟨this.1, Nat.lt_of_lt_of_le this.2 hb.size⟩
  · have := h.ok id
    simpa [BlkOK] using this
theorem Keeps.below {m : Mp} {S : Nat → Prop} {w w' : World} {hg : GW S w} {hz : ∀ b, S b → b < w.heap.size} (h : Hold (cxOf m S w hg hz) m S w []) (hb : Below w.heap.size w w') : Keeps S w w' := fun b hs => hb.block b (h.s b hs).2
end Go.Proofs.Ytcpageegmpjkiaa.K

namespace Go.Proofs.Ytcpageegmpjkiaa.B
open Go.RowKit
attribute [local go_sem] Oper.semAt_some
abbrev fnClone : Nat := 68
abbrev fnEq : Nat := 52
theorem eq_nil (w : World) (x : Option Nat) : (binOp .eql 28 (.map x) (.map none)).run Try.prog w = .ok (.bool x.isNone) w := by
  have h : (Op.equal 28 (.map x) (.map none)).run Try.prog w = .ok x.isNone w := by
    unfold Op.equal
    rw [show Op.maxDepth = 9999 + 1 from rfl, Op.equalIn]
    cases x <;> simp [run_underlying Try.underlying28]
  simp only [binOp]
  simp [h]
theorem run_clone {t b : Nat} {w : World} {es : Array MapEntry} {ck : Nat} (h : w.heap[b]? = some (.map es ck)) : (Extern.MapsClone.clone #[.iface t (.map (some b))]).run Try.prog w = .ok (.iface t (.map (some w.heap.size))) (w.alloc (.map es ck)) := by
  have e : ∃ g, Extern.MapsClone.clone #[.iface t (.map (some b))] = (getObj b >>= g) ∧ g (.map es ck) = (newObj (.map es ck) >>= fun a => pure (.iface t (.map (some a)))) := ⟨_, rfl, rfl⟩
  obtain ⟨g, e1, e2⟩ := e
  rw [e1]
  simp [MapKept.run_getObj_map h, e2]
theorem run_tas (v : Value) (w : World) (T : Nat) : (Instr.typeAssert (.iface 28 v) T 28 false).run Try.prog w = .ok v w := by
  simp [Instr.typeAssert, run_underlying Try.underlying28]
set_option maxRecDepth 100000 in
set_option maxHeartbeats 1000000 in
theorem clone_none (w : World) : Calls Try.prog 68 #[.map none] w fun e w' => e = .returned (.map none) ∧ w' = w := by
  go_enter Try.func68, Try.ntmps68
  go_wp2
  rw [eq_nil]
  simp only [Result.andThen]
  rw [Oper.upon_value]
  go_wp2
  (first | go_ret | go_ret2 | go_end0)
  exact ⟨rfl, rfl⟩
set_option maxRecDepth 100000 in
set_option maxHeartbeats 1000000 in
theorem clone_some (w : World) (b : Nat) (es : Array MapEntry) (ck : Nat) (h : w.heap[b]? = some (.map es ck)) : Calls Try.prog 68 #[.map (some b)] w fun e w' => e = .returned (.map (some w.heap.size)) ∧ w' = w.alloc (.map es ck) := by
  go_enter Try.func68, Try.ntmps68
  go_wp2
  rw [eq_nil]
  simp only [Result.andThen]
  rw [Oper.upon_value]
  go_wp2
  rw [run_callFunc_extern Try.func82 (by kernel_rfl) (by kernel_rfl) (by kernel_rfl) (e := Extern.MapsClone.clone) (by kernel_rfl)]
  rw [run_clone h]
  simp only [Result.andThen]
  rw [Oper.upon_value]
  go_wp2
  rw [run_tas]
  simp only [Result.andThen]
  rw [Oper.upon_value]
  go_wp2
  (first | go_ret | go_ret2 | go_end0)
  exact ⟨rfl, rfl⟩
theorem run_range_none (w : World) (t k e : TypeId) (ht : Try.prog.underlying t = some (.map k e)) : (Instr.range t (.map none)).run Try.prog w = .ok (.pointer (some ⟨w.heap.size, 0, none⟩)) (w.alloc (.mapIter none 0 #[] 0)) := by
  simp [Instr.range, run_underlying ht]
theorem run_next_none (w : World) (ty : TypeId) (r s c : Nat) (seen : Array Nat) (hr : w.heap[r]? = some (.mapIter none s seen c)) : (Instr.next (.pointer (some ⟨r, 0, none⟩)) false ty).run Try.prog w = .ok (.tuple #[.bool false]) w := by
  simp [Instr.next, getObj, Sem.run, hr]
/-- The walk over a map that is nil. -/
theorem len_map (w : World) (x : Option Nat) (n : Nat) (h : (x = none ∧ n = 0) ∨ ∃ b es ck, x = some b ∧ w.heap[b]? = some (.map es ck) ∧ es.size = n) (ty : TypeId) : (Builtin.len_ #[28] ty #[.map x]).run Try.prog w = .ok (.int .i64 n) w := by
  rcases h with ⟨rfl, rfl⟩ | ⟨b, es, ck, rfl, h, rfl⟩
  · simp [Builtin.len_, run_underlying Try.underlying28, goInt]
  · simp [Builtin.len_, run_underlying Try.underlying28, goInt, MapKept.run_getObj_map h]
set_option maxRecDepth 100000 in
set_option maxHeartbeats 1000000 in
theorem eq_other (w : World) (x y : Option Nat) (n m : Nat) (hx : (x = none ∧ n = 0) ∨ ∃ b es ck, x = some b ∧ w.heap[b]? = some (.map es ck) ∧ es.size = n) (hy : (y = none ∧ m = 0) ∨ ∃ b es ck, y = some b ∧ w.heap[b]? = some (.map es ck) ∧ es.size = m) (hne : (n : Int) ≠ m) (f : Value) :
    Calls Try.prog 52 #[.map x, .map y, f] w fun e w' => e = .returned (.bool false) ∧ w' = w := by
  have h1 := len_map w x n hx
  have h2 := len_map w y m hy
  go_enter Try.func52, Try.ntmps52
  go_wp2
  (first | go_ret | go_ret2 | go_end0)
  refine ⟨?_, rfl⟩
  simp [hne]
set_option maxRecDepth 100000 in
set_option maxHeartbeats 4000000 in
theorem eq_none (w : World) (y : Option Nat) (hy : (y = none ∧ (0 : Nat) = 0) ∨ ∃ b es ck, y = some b ∧ w.heap[b]? = some (.map es ck) ∧ es.size = 0) (f : Value) :
    Calls Try.prog 52 #[.map none, .map y, f] w fun e w' => e = .returned (.bool true) ∧ Below w.heap.size w w' := by
  have h1 := len_map w none 0 (.inl ⟨rfl, rfl⟩)
  have h2 := len_map w y 0 hy
  have h3 := run_range_none w _ _ _ Try.underlying28
  go_enter Try.func52, Try.ntmps52
  go_wp2
  go_loopw [] (fun wr => wr = w.alloc (.mapIter none 0 #[] 0)) (fun _ => 0)
  case atStart => rfl
  case round =>
    subst hrel
    have h4 := fun ty => run_next_none (w.alloc (.mapIter none 0 #[] 0)) ty w.heap.size 0 0 #[] (heap_alloc_new w _)
    go_wp2
    (first | go_ret | go_ret2 | go_end0)
    exact ⟨rfl, (Below.refl _ w).alloc (Nat.le_refl _) _⟩
set_option maxRecDepth 100000 in
set_option maxHeartbeats 4000000 in
theorem eq_loop (w : World) (b1 : Nat) (es : Array MapEntry) (ck : Nat) (hb1 : w.heap[b1]? = some (.map es ck)) (hst : K.StampsOK es.toList ck) (y : Option Nat) (hy : (y = none ∧ es.size = 0) ∨ ∃ b es' ck', y = some b ∧ w.heap[b]? = some (.map es' ck') ∧ es'.size = es.size) (good : MapEntry → Bool) (res : Bool) (hres : es.toList.all good = res)
    (hkey : ∀ e ∈ es.toList, ∃ a c : Int, e.key = .agg #[.int .i64 a, .int .i64 c])
    (hlook : ∀ e ∈ es.toList, ∀ W' : World, Below w.heap.size w W' → ∃ (u : Value) (ok : Bool), (Instr.lookup 28 (.map y) e.key true).run Try.prog W' = .ok (.tuple #[u, .bool ok]) W' ∧ (ok = false → good e = false) ∧
      (ok = true → Calls Try.prog 51 #[e.val, u] W' fun e' W'' => e' = .returned (.bool (good e)) ∧ Below W'.heap.size W' W'')) :
    Calls Try.prog 52 #[.map (some b1), .map y, .func (.func 51) #[] #[]] w fun e w' => e = .returned (.bool res) ∧ Below w.heap.size w w' := by
  have h1 := len_map w (some b1) es.size (.inr ⟨b1, es, ck, rfl, hb1, rfl⟩)
  have h2 := len_map w y es.size hy
  have h3 := run_range_map w _ _ _ b1 es ck Try.underlying28 hb1
  go_enter Try.func52, Try.ntmps52
  go_wp2
  have hb1lt : b1 < w.heap.size := (Array.getElem?_eq_some_iff.1 hb1).1
  go_loopw [] (fun wr => ∃ seen : Array Nat, wr.heap[w.heap.size]? = some (.mapIter (some b1) ck seen ck) ∧ Below w.heap.size w wr ∧ ∀ e ∈ es.toList, seen.contains e.born = true → good e = true) (fun wr => wr.rangeLeft b1 w.heap.size)
  case atStart => exact ⟨#[], heap_alloc_new w _, (Below.refl _ w).alloc (Nat.le_refl _) _, fun e _ h => by simp at h⟩
  case round =>
    obtain ⟨seen, hr, hbw, hgood⟩ := hrel
    have hbb : wr.heap[b1]? = some (.map es ck) := (hbw.block b1 hb1lt).trans hb1
    go_wp2
    rcases run_next_at (P := Try.prog) wr 0 w.heap.size b1 ck ck seen es ck hr hbb hst.2 (Nat.le_refl _) with ⟨h0, hrun⟩ | ⟨e, he, w1, hal, hrun⟩
    · rw [hrun]
      simp only [Result.andThen]
      rw [Oper.upon_value]
      go_wp2
      (first | go_ret | go_ret2 | go_end0)
      refine ⟨?_, hbw⟩
      have : es.toList.all good = true := List.all_eq_true.2 fun x hx => hgood x hx (all_seen es seen h0 x hx)
      rw [← hres, this]; rfl
    · obtain ⟨hem, hes⟩ := mem_left he
      obtain ⟨ka, kc, hk⟩ := hkey e hem
      have hr1 : w1.heap[w.heap.size]? = some (.mapIter (some b1) ck seen ck) := by rcases hal with rfl | rfl <;> exact hr
      have hb1' : w1.heap[b1]? = some (.map es ck) := by rcases hal with rfl | rfl <;> exact hbb
      have hbw1 : Below w.heap.size w w1 := by
        rcases hal with rfl | rfl
        · exact hbw
        · exact ⟨hbw.os, hbw.tape, hbw.output, hbw.size, hbw.block⟩
      have hset := MapKept.heap_set (o' := .mapIter (some b1) ck (seen.push e.born) ck) hr1
      have hb2 : (ChangeMaps.setBlock w1 w.heap.size (.mapIter (some b1) ck (seen.push e.born) ck)).heap[b1]? = some (.map es ck) := (hset.2 b1 (by omega)).trans hb1'
      have hbw2 : Below w.heap.size w (ChangeMaps.setBlock w1 w.heap.size (.mapIter (some b1) ck (seen.push e.born) ck)) := by
        refine ⟨hbw1.os, hbw1.tape, hbw1.output, by simpa [ChangeMaps.setBlock] using hbw1.size, fun k hk => ?_⟩
        exact (hset.2 k (by omega)).trans (hbw1.block k hk)
      have hset1 : (ChangeMaps.setBlock w1 w.heap.size (.mapIter (some b1) ck (seen.push e.born) ck)).heap[w.heap.size]? = some (.mapIter (some b1) ck (seen.push e.born) ck) := hset.1
      have hent := run_entry_at (P := Try.prog) _ w.heap.size b1 ck seen es ck e hset1 hb2 hem hst.1
      rw [hk] at hrun hent
      rw [hrun]
      simp only [Result.andThen]
      rw [Oper.upon_value]
      generalize hw2 : ChangeMaps.setBlock w1 w.heap.size (.mapIter (some b1) ck (seen.push e.born) ck) = w2 at hset1 hb2 hbw2 hent
      go_wp2
      have hb3 : Below w.heap.size w (w2.alloc (.cells #[.int .i64 ka, .int .i64 kc] 22)) := hbw2.alloc hbw2.size _
      have hr3 : (w2.alloc (.cells #[.int .i64 ka, .int .i64 kc] 22)).heap[w.heap.size]? = some (.mapIter (some b1) ck (seen.push e.born) ck) := by
        have hlt : w.heap.size < w2.heap.size := (Array.getElem?_eq_some_iff.1 hset1).1
        rw [heap_alloc_old w2 _ hlt]; exact hset1
      generalize hw3 : w2.alloc (.cells #[.int .i64 ka, .int .i64 kc] 22) = w3 at hb3 hr3
      obtain ⟨u, ok, hl, hlf, hlt⟩ := hlook e hem w3 hb3
      rw [hk] at hl
      rw [hl]
      simp only [Result.andThen]
      rw [Oper.upon_value]
      cases ok with
      | false =>
        have hgf : es.toList.all good = false := by
          cases h : es.toList.all good with
          | false => rfl
          | true => exact absurd (List.all_eq_true.1 h e hem) (by rw [hlf rfl]; decide)
        rw [hgf] at hres
        subst hres
        clear hlf hlt
        go_wp2
        (first | go_ret | go_ret2 | go_end0)
        exact ⟨rfl, hb3⟩
      | true =>
        have hc := hlt rfl
        clear hlt hlf hl
        go_wp2_with (go_at_call 51; refine hc.mono ?_)
        rintro e' W3 ⟨rfl, hb4⟩
        have hr4 : W3.heap[w.heap.size]? = some (.mapIter (some b1) ck (seen.push e.born) ck) := (hb4.block _ (Array.getElem?_eq_some_iff.1 hr3).1).trans hr3
        have hb5 : Below w.heap.size w W3 := hb3.trans (hb4.mono hb3.size)
        cases hgd : good e with
        | false =>
          go_wp2
          (first | go_ret | go_ret2 | go_end0)
          refine ⟨?_, hb5⟩
          have : es.toList.all good = false := by
            cases h : es.toList.all good with
            | false => rfl
            | true => exact absurd (List.all_eq_true.1 h e hem) (by rw [hgd]; decide)
          rw [← hres, this]; rfl
        | true =>
          go_wp2
          go_roundw
          case rel =>
            refine ⟨seen.push e.born, hr4, hb5, fun x hx hsx => ?_⟩
            rw [contains_push] at hsx
            simp only [Bool.or_eq_true] at hsx
            rcases hsx with h | h
            · exact hgood x hx h
            · have hxe : x = e := born_inj hst.1 hx hem (by simpa using h)
              rw [hxe]; exact hgd
          case measure =>
            simp only [World.rangeLeft, hr4, hr, hbb, (hb5.block b1 hb1lt).trans hb1]
            exact left_shrinks es seen e he
end Go.Proofs.Ytcpageegmpjkiaa.B

namespace Go.Proofs.Ytcpageegmpjkiaa.K
open Go.RowKit Go.Lib
section
variable {K V : Type} [DecidableEq K]
def mgood (f : V → V → Option Bool) (b : List (K × V)) (p : K × V) : Option Bool := match mlook b p.1 with | none => some false | some v => f p.2 v
def mall (f : V → V → Option Bool) (b : List (K × V)) : List (K × V) → Option Bool
  | [] => some true
  | p :: l => Option.bind (mgood f b p) fun x => Option.bind (mall f b l) fun y => some (x && y)
/-- Two maps, pair by pair. -/
def meq (f : V → V → Option Bool) (a b : List (K × V)) : Option Bool := if a.length = b.length then mall f b a else some false
theorem mall_some {f : V → V → Option Bool} {b : List (K × V)} : ∀ {l : List (K × V)} {r : Bool}, mall f b l = some r → (∀ p ∈ l, ∃ g, mgood f b p = some g) ∧ (r = true ↔ ∀ p ∈ l, mgood f b p = some true)
  | [], r, h => by cases h; exact ⟨by simp, by simp⟩
  | p :: l, r, h => by
    unfold mall at h
    cases hg : mgood f b p with
    | none => rw [hg] at h; cases h
    | some x =>
      rw [hg] at h
      cases hm : mall f b l with
      | none => rw [hm] at h; cases h
      | some y =>
        rw [hm] at h
        simp only [Option.bind_some, Option.some.injEq] at h
        subst h
        obtain ⟨h1, h2⟩ := mall_some hm
        refine ⟨fun q hq => ?_, ?_⟩
        · rcases List.mem_cons.1 hq with rfl | hq
          · exact ⟨x, hg⟩
          · exact h1 q hq
        · rw [Bool.and_eq_true, h2]
          constructor
          · rintro ⟨rfl, h3⟩ q hq
            rcases List.mem_cons.1 hq with rfl | hq
            · exact hg
            · exact h3 q hq
          · intro h3
            have := h3 p (by simp)
            rw [hg] at this; cases this
            exact ⟨rfl, fun q hq => h3 q (by simp [hq])⟩
end
/-! ### operations, computed -/
section
def mapZero (P : Program) (t kt : TypeId) : Option Value := match P.underlying t with
  | some (.map k e) => match Nat.beq k kt with | true => zeroOf P e | false => none
  | _ => none
theorem mapZero_spec {P : Program} {t kt : TypeId} {z : Value} (h : mapZero P t kt = some z) : ∃ e, P.underlying t = some (.map kt e) ∧ zeroOf P e = some z := by
  unfold mapZero at h
  split at h
  · rename_i k e hu
    cases hk : Nat.beq k kt with
    | false => rw [hk] at h; cases h
    | true => rw [hk] at h; rw [Nat.eq_of_beq_eq_true hk] at hu; exact ⟨e, hu, h⟩
  · cases h
def aggV : A → Option Value
  | .agg als => match litsOf als with | some us => some (.agg us.toArray) | none => none
  | _ => none
theorem aggV_spec {y : A} {v : Value} (h : aggV y = some v) : ∃ als us, y = .agg als ∧ litsOf als = some us ∧ Value.agg us.toArray = v := by
  unfold aggV at h
  split at h
  · rename_i als
    split at h
    · rename_i us hl; cases h; exact ⟨als, us, rfl, hl, rfl⟩
    · cases h
  · cases h
def isMapT (P : Program) (t : TypeId) : Bool := match P.underlying t with | some (.map _ _) => true | _ => false
theorem isMapT_spec {P : Program} {t : TypeId} (h : isMapT P t = true) : ∃ kt e, P.underlying t = some (.map kt e) := by
  unfold isMapT at h
  split at h
  · rename_i k e hu; exact ⟨k, e, hu⟩
  · cases h
def nilMp (H : List Blk) : A → A → Option Bool
  | .d (.mp b _ _), .d (.mp true [] []) => some b
  | .own id, .d (.mp true [] []) => match H.getD id .unborn with | .mp _ _ => some false | _ => none
  | _, _ => none
variable {P : Program} {o : Oper} {st : St} {K V : Type} [DecidableEq K] {kv : K → Value} {ev : V → D} {kt : TypeId}
theorem Mlk (k : K) (l : List (K × V)) (z0 : V) (hk : KeyOK P kt kv) {t : TypeId} {x i : Operand} {z : Value} (ho : o.op = .lookup t x i false) (hzd : ∀ (S : Nat → Prop) (w : World), RepD S w (ev z0) z) (hz : mapZero P t kt = some z := by kernel_rfl)
    (hx : mapAt st.H (opA st x) = some (mks kv l, mds ev l) := by kernel_rfl) (hi : aggV (opA st i) = some (kv k) := by kernel_rfl) : OpRun P o st (locsOf [x, i] ++ locA (opA st x)) (.d (ev ((mlook l k).getD z0))) [] := by
  obtain ⟨e, hu, hz⟩ := mapZero_spec hz
  obtain ⟨als, us, h1, h2, h3⟩ := aggV_spec hi
  exact Olk k l z0 hk ho hzd hu hz hx h1 h2 h3
omit [DecidableEq K] in
theorem Mml (l : List (K × V)) {t : TypeId} {x : Operand} (ho : o.op = .call ⟨.builtin .len, #[x], #[t]⟩) (hu : isMapT P t = true := by kernel_rfl) (hx : mapAt st.H (opA st x) = some (mks kv l, mds ev l) := by kernel_rfl) : OpRun P o st (locsOf [x] ++ locA (opA st x)) (.d (.lit (.int .i64 ((List.length l : Nat) : Int)))) [] := by
  obtain ⟨kt, e, hu⟩ := isMapT_spec hu
  exact Oml l ho hu hx
theorem Mmn {b : Bool} {t u : TypeId} {x y : Operand} (ho : o.op = .binOp .eql t x y u) (hu : isMapT P t = true := by kernel_rfl) (h : nilMp st.H (opA st x) (opA st y) = some b := by kernel_rfl) : OpRun P o st (locsOf [x, y] ++ locA (opA st x)) (.d (.lit (.bool b))) [] := by
  obtain ⟨kt, e, hu⟩ := isMapT_spec hu
  unfold nilMp at h
  split at h
  · rename_i b' ks cs hx hy
    cases h
    have := Omn (P := P) (st := st) ho hu hx hy
    rw [hx]
    exact fun st' hag => this st' fun l hl => hag l (by simp [hl])
  · rename_i id hx hy
    split at h
    · rename_i ks cs hb
      cases h
      have := Omo (P := P) (st := st) ho hu hx hb hy
      rw [hx]
      exact this
    · cases h
  · cases h
theorem Mmu (k : K) (v0 : V) (l : List (K × V)) (hk : KeyOK P kt kv) {t id : TypeId} {mo ko vo : Operand} {z : Value} (ho : o.op = .mapUpdate t mo ko vo) (hz : mapZero P t kt = some z)
    (hm : opA st mo = .own id) (hb : st.H.getD id .unborn = .mp (mks kv l) (mds ev l) := by kernel_rfl) (hi : aggV (opA st ko) = some (kv k) := by kernel_rfl) (hv : opA st vo = .d (ev v0) := by kernel_rfl) :
    OpRun P o st (locsOf [mo, ko, vo] ++ [.blk id]) (.tup []) [(id, .mp (mks kv (mput l k v0)) (mds ev (mput l k v0)))] := by
  obtain ⟨e, hu, hz⟩ := mapZero_spec hz
  obtain ⟨als, us, h1, h2, h3⟩ := aggV_spec hi
  exact Omu k v0 l hk ho hu hm hb h1 h2 h3 hv
theorem Mmd (k : K) (l : List (K × V)) (hk : KeyOK P kt kv) {t t' id : TypeId} {mo ko : Operand} {z : Value} (ho : o.op = .call ⟨.builtin .delete, #[mo, ko], #[t, t']⟩) (hz : mapZero P t kt = some z)
    (hm : opA st mo = .own id) (hb : st.H.getD id .unborn = .mp (mks kv l) (mds ev l) := by kernel_rfl) (hi : aggV (opA st ko) = some (kv k) := by kernel_rfl) :
    OpRun P o st (locsOf [mo, ko] ++ [.blk id]) (.tup []) [(id, .mp (mks kv (mdel l k)) (mds ev (mdel l k)))] := by
  obtain ⟨e, hu, hz⟩ := mapZero_spec hz
  obtain ⟨als, us, h1, h2, h3⟩ := aggV_spec hi
  exact Omd k l hk ho hu hm hb h1 h2 h3
end
theorem gcall_raw {P : Program} {f : FuncId} {args : List D} {res : Value} (h : GCall P f (args.map .d) [] (.d (.lit res)) []) {w : World} {vs : List Value} (hr : RepsD (fun b => b < w.heap.size) w args vs) (hg : GW (fun b => b < w.heap.size) w := by exact fun _ _ h => nomatch h) : Calls P f vs.toArray w fun e w' => e = .returned res ∧ Below w.heap.size w w' := by
  refine Calls.mono (h (fun _ => none) (fun b => b < w.heap.size) w vs hg (fun _ h => h) ?_ ?_) fun e w' ⟨v, m', S', he, h1, h2⟩ => ⟨?_, ⟨h1.os, h1.tape, h1.output, h1.size, fun k hk => h1.old k hk fun ⟨id, p, hp, _⟩ => by cases hp⟩⟩
  · exact ⟨rfl, rfl, rfl, Nat.le_refl _, fun _ _ _ => rfl, fun _ h => h, fun b hb => ⟨.inl hb, hb⟩, fun id p b hp => (by cases hp), fun id id' p p' b _ hp => (by cases hp), fun id => rfl, Le.refl _⟩
  · refine Reps.of (by simp [hr.1]) fun i x v hx hv => ?_
    rw [List.getElem?_map] at hx
    cases hd : args[i]? with
    | none => rw [hd] at hx; cases hx
    | some d => rw [hd] at hx; cases hx; simp only [Rep]; exact hr.2 i d v hd hv
  · simp only [Rep] at h2; unfold RepD at h2; rw [he, h2.1]
theorem map_none {S : Nat → Prop} {w : World} {v : Value} {ks : List Value} {cs : List D} (h : RepD S w (.mp true ks cs) v) : v = .map none := by
  simp only [RepD] at h
  rcases h with ⟨_, h, _⟩ | ⟨h, _⟩
  · exact h
  · cases h
theorem call_mclone_none : GCall Try.prog B.fnClone [.d (.mp true [] [])] [] (.d (.mp true [] [])) [] := by
  intro m S w vs hg hz hH hR
  simp only [Reps] at hR
  obtain ⟨v0, r0, rfl, h0, rfl⟩ := hR
  simp only [Rep] at h0
  obtain rfl := map_none h0
  refine Calls.mono (B.clone_none w) fun e w' ⟨he, hw⟩ => ?_
  subst hw
  exact ⟨_, m, S, he, hH, by simp only [Rep]; exact h0⟩
theorem call_mclone_some (ks : List Value) (cs : List D) : GCall Try.prog B.fnClone [.d (.mp false ks cs)] [] (.own 0) [.mp ks cs] := by
  intro m S w vs hg hz hH hR
  simp only [Reps] at hR
  obtain ⟨v0, r0, rfl, h0, rfl⟩ := hR
  simp only [Rep, RepD] at h0
  rcases h0 with ⟨h, _⟩ | ⟨_, b, es, ck, rfl, h1, h2, h3, h4, h5⟩
  · cases h
  refine Calls.mono (B.clone_some w b es ck h2) fun e w' ⟨he, hw⟩ => ?_
  subst hw
  have := hH.alloc (id := 0) rfl (.mp w.heap.size) rfl (.map es ck) (.mp ks cs) fun hK hLe => ⟨w.heap.size, es, ck, by simp [updM], heap_alloc_new w _, h3, h4, RepVs.mono (fun _ h => h) hK _ _ h5, fun hS => by have := hz _ hS; omega⟩
  exact ⟨_, _, S, he, this.2.2, by simp only [Rep, updM]; rfl⟩
theorem mclone_n {K V : Type} {kv : K → Value} {ev : V → D} {o : Option (List (K × V))} (h : Option.isNone o = true) : GCall Try.prog B.fnClone [.d (.mp (Option.isNone o) (mks kv (ml o)) (mds ev (ml o)))] [] (.d (.mp true [] [])) [] := by
  cases o with
  | none => exact call_mclone_none
  | some l => cases h
theorem mclone_s {K V : Type} {kv : K → Value} {ev : V → D} {o : Option (List (K × V))} {l : List (K × V)} (h : o = some l) : GCall Try.prog B.fnClone [.d (.mp (Option.isNone o) (mks kv (ml o)) (mds ev (ml o)))] [] (.own 0) [.mp (mks kv l) (mds ev l)] := by
  subst h; exact call_mclone_some _ _
theorem MapIs.size {S : Nat → Prop} {w : World} {v : Value} {ks : List Value} {cs : List D} (h : MapIs S w v ks cs) : ∃ x, v = .map x ∧ ((x = none ∧ ks.length = 0) ∨ ∃ b es ck, x = some b ∧ w.heap[b]? = some (.map es ck) ∧ es.size = ks.length) := by
  rcases h with ⟨rfl, h1, _⟩ | ⟨b, es, ck, rfl, h2, _, h4, _⟩
  · exact ⟨none, rfl, .inl ⟨rfl, by rw [h1]; rfl⟩⟩
  · exact ⟨some b, rfl, .inr ⟨b, es, ck, rfl, h2, by rw [← h4]; simp⟩⟩
theorem rep_mapIs {S : Nat → Prop} {w : World} {v : Value} {nl : Bool} {ks : List Value} {cs : List D} (h : RepD S w (.mp nl ks cs) v) : MapIs S w v ks cs := by
  simp only [RepD] at h
  rcases h with ⟨_, h1, h2, h3⟩ | ⟨_, b, es, ck, h1, _, h2, h3, h4, h5⟩
  · exact .inl ⟨h1, h2, h3⟩
  · exact .inr ⟨b, es, ck, h1, h2, h3, h4, h5⟩
theorem repMap_mono {w w' : World} {v : Value} {nl : Bool} {ks : List Value} {cs : List D} (h : RepD (fun b => b < w.heap.size) w (.mp nl ks cs) v) (hb : Below w.heap.size w w') : RepD (fun b => b < w'.heap.size) w' (.mp nl ks cs) v :=
  RepD.mono (fun b hb' => Nat.lt_of_lt_of_le hb' hb.size) (fun b hb' => hb.block b hb') _ _ h
theorem call_meq {K V : Type} [DecidableEq K] {kv : K → Value} {ev : V → D} (hk : KeyOK Try.prog 22 kv) (hkv : ∀ k, ∃ a c : Int, kv k = .agg #[.int .i64 a, .int .i64 c]) (f : V → V → Option Bool)
    (con : ∀ x y r, f x y = some r → GCall Try.prog 51 [.d (ev x), .d (ev y)] [] (.d (.lit (.bool r))) []) (z0 : V) (hz : ∀ (S : Nat → Prop) (w : World), RepD S w (ev z0) (.slice none 0 0)) (n1 n2 : Bool) (a b : List (K × V)) (r : Bool) (h : meq f a b = some r) :
    GCall Try.prog B.fnEq [.d (.mp n1 (mks kv a) (mds ev a)), .d (.mp n2 (mks kv b) (mds ev b)), .clo (.func 51) [] []] [] (.d (.lit (.bool r))) [] := by
  intro m S w vs hg hz' hH hR
  simp only [Reps] at hR
  obtain ⟨v0, r0, rfl, h0, v1, r1, rfl, h1, v2, r2, rfl, h2, rfl⟩ := hR
  simp only [Rep, Reps] at h0 h1 h2
  obtain ⟨us, cs, rfl, hus, hcs⟩ := h2
  have e1 : us = #[] := by simpa using hus
  have e2 : cs = #[] := by simpa using hcs
  subst e1; subst e2
  have fin : ∀ {e : Ending} {w' : World}, e = .returned (.bool r) ∧ Below w.heap.size w w' → ∃ v m' S', e = .returned v ∧ Hold (cxOf m S w hg hz') m' S' w' [] ∧ Rep m' S' w' (.d (.lit (.bool r))) v := fun ⟨he, hb⟩ =>
    ⟨_, m, S, he, hH.below hb, by simp only [Rep]; unfold RepD; exact ⟨rfl, rfl⟩⟩
  have k0 : RepD (fun b => b < w.heap.size) w (.mp n1 (mks kv a) (mds ev a)) v0 := RepD.mono hz' (Keeps.refl S w) _ _ h0
  have k1 : RepD (fun b => b < w.heap.size) w (.mp n2 (mks kv b) (mds ev b)) v1 := RepD.mono hz' (Keeps.refl S w) _ _ h1
  obtain ⟨x, rfl, sx⟩ := (rep_mapIs k0).size
  obtain ⟨y, rfl, sy⟩ := (rep_mapIs k1).size
  have la : (mks kv a).length = a.length := by simp [mks]
  have lb : (mks kv b).length = b.length := by simp [mks]
  rw [la] at sx
  rw [lb] at sy
  unfold meq at h
  by_cases hl : a.length = b.length
  · rw [if_pos hl] at h
    obtain ⟨g1, g2⟩ := mall_some h
    rcases rep_mapIs k0 with ⟨h3, h4, h5⟩ | ⟨b1, es, ck, h3, h4, h5, h6, h7⟩
    · cases h3
      have : a = [] := by cases a with | nil => rfl | cons p l => simp [mks] at h4
      subst this
      cases h
      refine Calls.mono (B.eq_none w y ?_ _) fun e w' hp => fin hp
      rcases sy with ⟨sy, _⟩ | ⟨b', es', ck', s1, s2, s3⟩
      · exact .inl ⟨sy, rfl⟩
      · exact .inr ⟨b', es', ck', s1, s2, by rw [s3, ← hl]; rfl⟩
    · cases h3
      have hes : es.size = a.length := by rw [← la, ← h6]; simp
      have hpos : ∀ (i : Nat) (e : MapEntry), es.toList[i]? = some e → ∃ p, a[i]? = some p ∧ e.key = kv p.1 ∧ RepD (fun b => b < w.heap.size) w (ev p.2) e.val := fun i e hi => by
        have hlt : i < a.length := by have := (List.getElem?_eq_some_iff.1 hi).1; simp at this; omega
        refine ⟨a[i], List.getElem?_eq_getElem hlt, ?_, ?_⟩
        · have := congrArg (fun l => l[i]?) h6
          simp only [mks, List.getElem?_map, hi, List.getElem?_eq_getElem hlt, Option.map_some, Option.some.injEq] at this
          exact this
        · obtain ⟨e', q1, q2⟩ := map_get h7 (List.getElem?_eq_getElem hlt)
          rw [hi] at q1; cases q1; exact q2
      have uniq : ∀ (i j : Nat) (e : MapEntry), es.toList[i]? = some e → es.toList[j]? = some e → i = j := fun i j e hi hj => by
        have q1 : (es.toList.map (·.born))[i]? = some e.born := by rw [List.getElem?_map, hi]; rfl
        have q2 : (es.toList.map (·.born))[j]? = some e.born := by rw [List.getElem?_map, hj]; rfl
        exact (List.getElem?_inj (List.getElem?_eq_some_iff.1 q1).1 h5.1).1 (q1.trans q2.symm)
      classical
      let good : MapEntry → Bool := fun e => decide (∃ (i : Nat) (p : K × V), es.toList[i]? = some e ∧ a[i]? = some p ∧ mgood f b p = some true)
      have hgood : ∀ (i : Nat) (e : MapEntry) (p : K × V) (g : Bool), es.toList[i]? = some e → a[i]? = some p → mgood f b p = some g → good e = g := fun i e p g hi hp hg => by
        cases g with
        | true => exact decide_eq_true ⟨i, p, hi, hp, hg⟩
        | false =>
          refine decide_eq_false ?_
          rintro ⟨j, q, hj, hq, hgq⟩
          obtain rfl := uniq i j e hi hj
          rw [hp] at hq; cases hq
          rw [hg] at hgq; cases hgq
      have hall : es.toList.all good = r := by
        have : es.toList.all good = true ↔ r = true := by
          rw [g2, List.all_eq_true]
          constructor
          · intro h q hq
            obtain ⟨i, hi⟩ := List.getElem?_of_mem hq
            have hlt : i < es.toList.length := by have := (List.getElem?_eq_some_iff.1 hi).1; simp; omega
            obtain ⟨g, hg⟩ := g1 q hq
            have := h _ (List.getElem_mem hlt)
            rw [hgood i _ q g (List.getElem?_eq_getElem hlt) hi hg] at this
            rw [hg, this]
          · intro h e he
            obtain ⟨i, hi⟩ := List.getElem?_of_mem he
            obtain ⟨p, hp, _⟩ := hpos i e hi
            exact hgood i e p true hi hp (h p (List.mem_of_getElem? hp))
        cases hx : es.toList.all good <;> cases hr' : r <;> simp_all
      refine Calls.mono (B.eq_loop w b1 es ck h4 h5 y ?_ good r hall ?_ ?_) fun e w' hp => fin hp
      · rcases sy with ⟨sy, s0⟩ | ⟨b', es', ck', s1, s2, s3⟩
        · exact .inl ⟨sy, by omega⟩
        · exact .inr ⟨b', es', ck', s1, s2, by omega⟩
      · intro e he
        obtain ⟨i, hi⟩ := List.getElem?_of_mem he
        obtain ⟨p, _, hp, _⟩ := hpos i e hi
        rw [hp]; exact hkv _
      · intro e he W' hW
        obtain ⟨i, hi⟩ := List.getElem?_of_mem he
        obtain ⟨p, hp, hpk, hpv⟩ := hpos i e hi
        have kW := repMap_mono k1 hW
        obtain ⟨u, q1, q2⟩ := run_lookup (ev := ev) hk Try.underlying28 (z := .slice none 0 0) (z0 := z0) (by kernel_rfl) (hz _ W') (rep_mapIs kW) p.1 true
        obtain ⟨g, hg⟩ := g1 p (List.mem_of_getElem? hp)
        have hge := hgood i e p g hi hp hg
        refine ⟨u, (mlook b p.1).isSome, by rw [hpk, q1]; rfl, fun hn => ?_, fun hs => ?_⟩
        · unfold mgood at hg
          cases hm : mlook b p.1 with
          | none => rw [hm] at hg; cases hg; exact hge
          | some v => rw [hm] at hn; cases hn
        · unfold mgood at hg
          cases hm : mlook b p.1 with
          | none => rw [hm] at hs; cases hs
          | some v =>
            rw [hm] at hg q2
            rw [hge]
            refine gcall_raw (args := [ev p.2, ev v]) (con _ _ _ hg) (vs := [e.val, u]) ⟨rfl, fun j x z hx hz => ?_⟩
            match j, hx, hz with
            | 0, hx, hz => cases hx; cases hz; exact RepD.mono (fun b hb' => Nat.lt_of_lt_of_le hb' hW.size) (fun b hb' => hW.block b hb') _ _ hpv
            | 1, hx, hz => cases hx; cases hz; exact q2
            | j + 2, hx, hz => simp at hx
  · rw [if_neg hl] at h
    cases h
    refine Calls.mono (B.eq_other w x y a.length b.length sx sy (by omega) _) fun e w' ⟨he, hw⟩ => fin ⟨he, by rw [hw]; exact Below.refl _ w⟩
end Go.Proofs.Ytcpageegmpjkiaa.K

namespace Go.Proofs.Ytcpageegmpjkiaa.K
open Go.RowKit Go.Lib

structure GArr2_Int where
  a0 : Int
  a1 : Int
  deriving DecidableEq, Inhabited
def enc_GArr2_Int (x : GArr2_Int) : List D := [(.lit (.int .i64 x.a0)), (.lit (.int .i64 x.a1))]
structure GChange where
  Loc : Int
  Time : Int
  N : Int
  deriving DecidableEq, Inhabited
def enc_GChange (x : GChange) : List D := [(.lit (.int .i64 x.Loc)), (.lit (.int .i64 x.Time)), (.lit (.int .i64 x.N))]
theorem enc_GChange_len (x : GChange) : (enc_GChange x).length = 3 := rfl
theorem enc_GChange_plain (x : GChange) : ∀ d ∈ enc_GChange x, d.Plain := by simp [enc_GChange, D.Plain, byteD]
def kv_22 (k : GArr2_Int) : Value := .agg #[.int .i64 k.a0, .int .i64 k.a1]
theorem keyOK_22 : KeyOK Try.prog 22 kv_22 where
  run x y w := by
    have e : (decide (x.a0 = y.a0) && (decide (x.a1 = y.a1) && true)) = decide (y = x) := by
      cases x; cases y
      simp only [GArr2_Int.mk.injEq, Bool.and_true, Bool.decide_and]
      congr 1 <;> simp [eq_comm]
    have h : (Op.equal 22 (kv_22 x) (kv_22 y)).run Try.prog w = .ok (decide (x.a0 = y.a0) && (decide (x.a1 = y.a1) && true)) w := eqD_run (P := Try.prog) 8 22 (kv_22 x) (kv_22 y) (decide (x.a0 = y.a0) && (decide (x.a1 = y.a1) && true)) (by kernel_rfl) 9992 w
    exact h.trans (congrArg (fun b => Result.ok b w) e)
  check x em w := by kernel_rfl
  stays x w := by simp [Instr.keyThatStays, Instr.sameBits, kv_22]
  under := ⟨_, _, Try.underlying22⟩
structure GNet where
  Cap : Int
  Views : (List (List GChange))
  Pending : (List (List GChange))
  Links : (Option (List (GArr2_Int × (List (List GChange)))))
  deriving DecidableEq, Inhabited
structure GTurn_ where
  Kind : UInt8
  W : Int
  A : Int
  deriving DecidableEq, Inhabited
def enc_GTurn_ (x : GTurn_) : List D := [(byteD x.Kind), (.lit (.int .i64 x.W)), (.lit (.int .i64 x.A))]
theorem enc_GTurn__len (x : GTurn_) : (enc_GTurn_ x).length = 3 := rfl
structure GPoint where
  Loc : Int
  Time : Int
  deriving DecidableEq, Inhabited
structure GLeave_ where
  Point : GPoint
  Held : Bool
  deriving DecidableEq, Inhabited
def enc_GLeave_ (x : GLeave_) : List D := [(.lit (.int .i64 x.Point.Loc)), (.lit (.int .i64 x.Point.Time)), (.lit (.bool x.Held))]
theorem enc_GLeave__len (x : GLeave_) : (enc_GLeave_ x).length = 3 := rfl
structure GBook where
  L : (List GLeave_)
  deriving DecidableEq, Inhabited
def enc_GBook (x : GBook) : List D := [(.sl (List.length x.L) (flatD enc_GLeave_ x.L))]
theorem enc_GBook_len (x : GBook) : (enc_GBook x).length = 1 := rfl
structure GTcrew where
  net : GNet
  books : (List GBook)
  things : (List Int)
  deriving DecidableEq, Inhabited
structure GArr4_Int where
  a0 : Int
  a1 : Int
  a2 : Int
  a3 : Int
  deriving DecidableEq, Inhabited
theorem elemOK_27 : ElemOK Try.prog 27 34 1 24 (.slice none 0 0) := ⟨by kernel_rfl, by kernel_rfl, by kernel_rfl, by decide, by decide⟩
theorem elemOK_34 : ElemOK Try.prog 34 84 3 24 (.agg #[(.int .i64 0), (.int .i64 0), (.int .i64 0)]) := ⟨by kernel_rfl, by kernel_rfl, by kernel_rfl, by decide, by decide⟩
theorem elemOK_66 : ElemOK Try.prog 66 72 1 24 (.agg #[(.slice none 0 0)]) := ⟨by kernel_rfl, by kernel_rfl, by kernel_rfl, by decide, by decide⟩
theorem elemOK_67 : ElemOK Try.prog 67 3 1 8 (.int .i64 0) := ⟨by kernel_rfl, by kernel_rfl, by kernel_rfl, by decide, by decide⟩
theorem elemOK_70 : ElemOK Try.prog 70 109 3 24 (.agg #[(.int .i64 0), (.int .i64 0), (.bool false)]) := ⟨by kernel_rfl, by kernel_rfl, by kernel_rfl, by decide, by decide⟩
end Go.Proofs.Ytcpageegmpjkiaa.K
