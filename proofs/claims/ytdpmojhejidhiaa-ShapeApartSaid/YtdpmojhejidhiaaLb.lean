/- Steps of a walk for lift.py: states meet, rows are frozen, moved, dropped; parts of slices; texts side by side. -/
import Derived.Test.YtdpmojhejidhiaaLa
namespace Go.Proofs.Ytdpmojhejidhiaa.K
open Go.RowKit Go.Lib
set_option linter.unusedVariables false
set_option linter.unusedSimpArgs false

section
variable {P : Program} {K : Exit → St → Prop} {b c : Code} {st : St}
/-- Ways that meet: what is behind is walked once. -/
theorem AWP.cutJ {α : Type} (S : α → St) (I : α → Prop) (hb : ∀ x, I x → AWP P K b (S x)) (h : (∀ x, I x → AWP P K b (S x)) → AWP P K (.seq c b) st) : AWP P K (.seq c b) st := h hb
theorem Rounds.to_ {n : Nat} {st' : St} (e : st = st') (h : Rounds P K c n st') : Rounds P K c n st := e ▸ h
end
/-- Own rows are frozen; nil stays nil. -/
def Blk.viewN (H : List Blk) (vids : List Nat) : Blk → Blk
  | .box xs => .box (A.views H vids xs)
  | b => b
def frzN (H : List Blk) (vids : List Nat) : List Blk → Nat → List Blk
  | [], _ => []
  | b :: l, k => (match inB vids k with | true => b.frz | false => b.viewN H vids) :: frzN H vids l (k + 1)
theorem frzN_get {H : List Blk} {vids : List Nat} : ∀ (l : List Blk) (k j : Nat), (frzN H vids l k).getD j .unborn = if (k + j) ∈ vids then (l.getD j .unborn).frz else (l.getD j .unborn).viewN H vids
  | [], k, j => by simp only [frzN, List.getD_nil]; split <;> rfl
  | b :: l, k, 0 => by
    simp only [frzN, List.getD_cons_zero, Nat.add_zero]
    cases h : inB vids k with
    | true => rw [if_pos (inB_iff.1 h)]
    | false => rw [if_neg (fun hm => by rw [inB_iff.2 hm] at h; cases h)]
  | b :: l, k, j + 1 => by
    simp only [frzN, List.getD_cons_succ]
    rw [frzN_get l (k + 1) j, show k + 1 + j = k + (j + 1) by omega]
theorem Weak.frz {st : St} (vids : List Nat) : Weak st ⟨A.views st.H vids st.env, frzN st.H vids st.H 0, st.k⟩ := by
  intro cx m S a w hs
  have hf := hs.hold.freeze (vids := vids) (H' := putB st.H (vids.map fun id => (id, (st.H.getD id .unborn).frz))) fun k => by
    rw [getD_putB, lastB_frz]
    by_cases hk : k ∈ vids <;> simp [hk]
  have hle := fzm_le hs.hold vids
  refine ⟨fzm m st.H vids, SV' m S vids, ⟨⟨hf.os, hf.tape, hf.output, hf.size, hf.old, hf.s0, hf.s, hf.pl, hf.apart, fun j => ?_, hf.le⟩, Reps.mono hle (fun _ h => h) (Keeps.refl _ w) _ _ (Reps.view hs.hold _ _ hs.env), hs.df, hs.pre⟩⟩
  have hj := hf.ok j
  rw [getD_putB, lastB_frz] at hj
  simp only [] at hj ⊢
  rw [frzN_get, Nat.zero_add]
  by_cases hk : j ∈ vids
  · rw [if_pos hk] at hj ⊢; exact hj
  · rw [if_neg hk] at hj ⊢
    simp only [Option.getD_none] at hj
    cases hb : st.H.getD j .unborn with
    | box xs =>
      rw [hb] at hj
      obtain ⟨b, cells, T, k1, k2, k3, k4, k5⟩ := hj
      have hok := hs.hold.ok j
      rw [hb] at hok
      obtain ⟨b0, cells0, T0, j1, j2, j3, _⟩ := hok
      have hi : inB vids j = false := by
        cases hi : inB vids j with
        | false => rfl
        | true => exact absurd (inB_iff.1 hi) hk
      have e1 : m j = some (.box b) := by simpa only [fzm, hi] using k1
      rw [j1] at e1; cases e1
      rw [j2] at k2; cases k2
      exact ⟨b, cells, T, k1, j2, Reps.mono hle (fun _ h => h) (Keeps.refl _ w) _ _ (Reps.view hs.hold _ _ j3), k4, k5⟩
    | unborn => rw [hb] at hj; exact hj
    | gone => rw [hb] at hj; exact hj
    | arr e sz n xs => rw [hb] at hj; exact hj
    | fro e sz n xs => rw [hb] at hj; exact hj

/-- Slot by slot: nothing known, the same under other names, or nil as an empty slice. -/
def wkM (ids : List Nat) : List A → List A → Prop
  | [], [] => True
  | x :: xs, y :: ys => (x = .top ∨ x.ren ids = some y ∨ x.ren ids = some y.nn) ∧ wkM ids xs ys
  | _, _ => False
theorem wkM_reps {ids : List Nat} {m : Mp} {S : Nat → Prop} {w : World} : ∀ {xs ys : List A} {vs : List Value}, wkM ids xs ys → Reps m S w ys vs → Reps (via ids m) S w xs vs
  | [], [], vs, _, h => by simp only [Reps] at h ⊢; exact h
  | x :: xs, y :: ys, vs, hw, h => by
    simp only [Reps] at h ⊢
    obtain ⟨v, r, rfl, h1, h2⟩ := h
    refine ⟨v, r, rfl, ?_, wkM_reps hw.2 h2⟩
    rcases hw.1 with rfl | he | he
    · simp only [Rep]
    · exact (Rep.via x y v he).2 h1
    · exact (Rep.via x y.nn v he).2 (Rep.nn y v h1)
  | [], _ :: _, _, hw, _ => hw.elim
  | _ :: _, [], _, hw, _ => hw.elim
def wkC (ids : List Nat) : Blk → Blk → Prop
  | .box xs, .box ys => wkM ids xs ys
  | b, b' => b.ren ids = some b'
theorem wkC_ok {ids : List Nat} {m : Mp} {S : Nat → Prop} {w : World} {j k : Nat} {b b' : Blk} (hk : ids[j]? = some k) (hw : wkC ids b b') (h : BlkOK m S w k b') : BlkOK (via ids m) S w j b := by
  have gen : b.ren ids = some b' → BlkOK (via ids m) S w j b := fun hr => (BlkOK.via hk hr).2 h
  cases b with
  | box xs =>
    cases b' with
    | box ys =>
      obtain ⟨b, cells, T, h1, h2, h3, h4, h5⟩ := h
      exact ⟨b, cells, T, by simp [K.via, hk, h1], h2, wkM_reps hw h3, h4, h5⟩
    | _ => exact gen hw
  | _ => exact gen hw
def wkCs (ids : List Nat) (H : List Blk) : List Nat → List Blk → Prop
  | [], [] => True
  | i :: is, b :: bs => wkC ids b (H.getD i .unborn) ∧ wkCs ids H is bs
  | _, _ => False
theorem wkCs_spec {ids : List Nat} {H : List Blk} : ∀ {is : List Nat} {bs : List Blk}, wkCs ids H is bs → is.length = bs.length ∧ ∀ j i, is[j]? = some i → wkC ids (bs.getD j .unborn) (H.getD i .unborn)
  | [], [], _ => ⟨rfl, fun j i h => by simp at h⟩
  | i :: is, b :: bs, h => by
    obtain ⟨h1, h2⟩ := wkCs_spec h.2
    refine ⟨by simp [h1], fun j k hj => ?_⟩
    cases j with
    | zero => simp only [List.getElem?_cons_zero, Option.some.injEq] at hj; subst hj; exact h.1
    | succ j => simpa using h2 j k (by simpa using hj)
  | [], _ :: _, h => h.elim
  | _ :: _, [], h => h.elim
theorem Weak.toN {st st' : St} (ids : List Nat) (hk : st'.k = st.k) (hn' : nodupB ids = true) (hl : ids.length = st'.H.length) (hpre : st.k ≤ ids.length ∧ ids.take st.k = List.range st.k)
    (hH' : wkCs ids st.H ids st'.H) (he : wkM ids st'.env st.env) : Weak st st' := by
  have hn := nodupB_spec hn'
  have hH := (wkCs_spec hH').2
  intro cx m S a w hs
  have h := hs.hold
  refine ⟨via ids m, S, ⟨⟨h.os, h.tape, h.output, h.size, h.old, h.s0, h.s, fun id p b hp hb => ?_, fun id id' p p' b hne hp hp' hb => ?_, fun j => ?_, fun id p hp => ?_⟩, wkM_reps he hs.env, hs.df, by rw [hk]; exact hs.pre⟩⟩
  · obtain ⟨k, _, hk⟩ := via_some hp; exact h.pl k p b hk hb
  · obtain ⟨k, h1, hk⟩ := via_some hp
    obtain ⟨k', h1', hk'⟩ := via_some hp'
    refine h.apart k k' p p' b (fun he => hne ?_) hk hk' hb
    subst he
    exact (List.getElem?_inj (List.getElem?_eq_some_iff.1 h1).1 hn).1 (h1.trans h1'.symm)
  · rcases Nat.lt_or_ge j ids.length with hj | hj
    · have hkj : ids[j]? = some ids[j] := List.getElem?_eq_getElem hj
      exact wkC_ok hkj (hH j _ hkj) (h.ok _)
    · rw [getD_none (by rw [← hl]; exact hj)]
      simp only [BlkOK, K.via, List.getElem?_eq_none hj, Option.bind_none]
  · have hid : id < st.k := by
      rcases Nat.lt_or_ge id st.k with h1 | h1
      · exact h1
      · rw [hs.pre id h1] at hp; cases hp
    have hki : ids[id]? = some id := by
      have : (ids.take st.k)[id]? = some id := by rw [hpre.2, List.getElem?_range hid]
      rwa [List.getElem?_take, if_pos hid] at this
    simp only [K.via, hki, Option.bind_some]
    exact h.le id p hp
/-- A block is let go. -/
def isLive : Blk → Bool
  | .arr .. => true
  | .fro .. => true
  | .box _ => true
  | _ => false
theorem Weak.gone {st st' : St} (j : Nat) (hb : isLive (st.H.getD j .unborn) = true) (he : st' = ⟨st.env, st.H.set j .gone, st.k⟩) : Weak st st' := by
  subst he
  intro cx m S a w hs
  have h := hs.hold
  have hj : ∃ p, m j = some p := by
    have hok := h.ok j
    cases hx : st.H.getD j .unborn with
    | unborn => rw [hx] at hb; cases hb
    | gone => rw [hx] at hb; cases hb
    | box xs => rw [hx] at hok; obtain ⟨b, cells, T, h1, _⟩ := hok; exact ⟨_, h1⟩
    | arr e sz n xs => rw [hx] at hok; obtain ⟨v, h1, _⟩ := hok; exact ⟨_, h1⟩
    | fro e sz n xs => rw [hx] at hok; obtain ⟨v, h1, _⟩ := hok; exact ⟨_, h1⟩
  have hlen : j < st.H.length := by
    rcases Nat.lt_or_ge j st.H.length with h1 | h1
    · exact h1
    · rw [getD_none h1] at hb; cases hb
  have hLe : Le m (updM m j .gone) := fun k q hq => by
    by_cases e1 : k = j
    · subst e1; right; simp [updM]
    · left; simpa only [updM, e1, if_false] using hq
  have hne : ∀ i, i ≠ j → updM m j .gone i = m i := fun i hi => by simp only [updM, hi, if_false]
  have hself : updM m j .gone j = some .gone := by simp [updM]
  have blkM : ∀ {id p b}, updM m j .gone id = some p → p.blk = some b → m id = some p := fun {id p b} hp hb => by
    by_cases e1 : id = j
    · subst e1; rw [hself] at hp; cases hp; cases hb
    · rw [hne id e1] at hp; exact hp
  refine ⟨_, S, ⟨⟨h.os, h.tape, h.output, h.size, h.old, h.s0, h.s, fun id p b hp hb => h.pl id p b (blkM hp hb) hb, fun id id' p p' b hd hp hp' hb hb' => h.apart id id' p p' b hd (blkM hp hb) (blkM hp' hb') hb hb', fun i => ?_, h.le.trans hLe⟩,
    Reps.mono hLe (fun _ h => h) (Keeps.refl S w) _ _ hs.env, hs.df, hs.pre⟩⟩
  by_cases hi : i = j
  · subst hi
    rw [show (st.H.set i .gone).getD i .unborn = .gone by simp [List.getD_eq_getElem?_getD, List.getElem?_set, hlen]]
    exact hself
  · rw [show (st.H.set j .gone).getD i .unborn = st.H.getD i .unborn by simp [List.getD_eq_getElem?_getD, List.getElem?_set, Ne.symm hi]]
    exact (h.ok i).mono (hne i hi) hLe (fun _ h => h) (Keeps.refl S w) fun p g _ _ => ⟨rfl, fun h => h⟩
/-- A row takes another number. -/
def wkV (c a : Nat) : List A → List A → Prop
  | [], [] => True
  | x :: xs, y :: ys => (x = y ∨ (x = .own c ∧ y = .own a)) ∧ wkV c a xs ys
  | _, _ => False
def mvL (a c : Nat) : Nat → List Blk → List Blk → Prop
  | j, x :: xs, y :: ys => (j = a ∨ x = y ∨ ∃ p q, x = .box p ∧ y = .box q ∧ wkV c a p q) ∧ mvL a c (j + 1) xs ys
  | _, [_], [] => True
  | _, [], [] => True
  | _, _, _ => False
theorem mvL_spec {a c : Nat} : ∀ {xs ys : List Blk} {j : Nat}, mvL a c j xs ys → ∀ i, i < ys.length → j + i = a ∨ xs.getD i .unborn = ys.getD i .unborn ∨ ∃ p q, xs.getD i .unborn = .box p ∧ ys.getD i .unborn = .box q ∧ wkV c a p q
  | _, [], _, _, i, hi => by simp at hi
  | [], y :: ys, _, h, _, _ => by simp [mvL] at h
  | x :: xs, y :: ys, j, h, i, hi => by
    simp only [mvL] at h
    cases i with
    | zero => simpa using h.1
    | succ i =>
      have := mvL_spec h.2 i (by simpa using hi)
      rw [show j + (i + 1) = j + 1 + i by omega]
      simpa using this
theorem mvL_len {a c : Nat} : ∀ {xs ys : List Blk} {j : Nat}, mvL a c j xs ys → xs.length ≤ ys.length + 1
  | [], [], _, _ => by simp
  | [_], [], _, _ => by simp
  | _ :: _ :: _, [], _, h => by simp [mvL] at h
  | [], _ :: _, _, h => by simp [mvL] at h
  | x :: xs, y :: ys, j, h => by
    simp only [mvL] at h
    have := mvL_len h.2
    simp; omega
theorem Weak.move {st st' : St} (a c : Nat) {e sz n : Nat} {xs : List D} (ha : st.H.getD a .unborn = .arr e sz n xs) (hc : c = st.H.length) (hne : a ≠ c) (hk : st'.k = st.k) (he : wkV c a st'.env st.env)
    (hga : st'.H.getD a .unborn = .gone) (hgc : st'.H.getD c .unborn = .arr e sz n xs) (ho : mvL a c 0 st'.H st.H) : Weak st st' := by
  intro cx m S act w hs
  have h := hs.hold
  have hcu : st.H.getD c .unborn = .unborn := getD_none (by omega)
  have hok := h.ok a
  rw [ha] at hok
  obtain ⟨v, h1, h2, h3⟩ := hok
  have hmc : m c = none := by have := h.ok c; rw [hcu] at this; exact this
  let m' : Mp := fun k => if k = c then some (.arr v) else if k = a then some .gone else m k
  have mc : m' c = some (.arr v) := by simp [m']
  have ma : m' a = some .gone := by simp [m', hne]
  have mo : ∀ i, i ≠ a → i ≠ c → m' i = m i := fun i h1 h2 => by simp [m', h1, h2]
  have hLe : Le m m' := fun k q hq => by
    by_cases e1 : k = c
    · subst e1; rw [hmc] at hq; cases hq
    · by_cases e2 : k = a
      · subst e2; exact .inr ma
      · left; rw [mo k e2 e1]; exact hq
  have back : ∀ {id p b}, m' id = some p → p.blk = some b → (id = c ∧ p = .arr v ∧ m a = some p) ∨ (id ≠ c ∧ id ≠ a ∧ m id = some p) := fun {id p b} hp hb => by
    by_cases e1 : id = c
    · subst e1; rw [mc] at hp; cases hp; exact .inl ⟨rfl, rfl, h1⟩
    · by_cases e2 : id = a
      · subst e2; rw [ma] at hp; cases hp; cases hb
      · rw [mo id e2 e1] at hp; exact .inr ⟨e1, e2, hp⟩
  have hv1 : ∀ {xs ys : List A} {vs : List Value}, wkV c a xs ys → Reps m S w ys vs → Reps m' S w xs vs := by
    intro xs
    induction xs with
    | nil =>
      intro ys vs hw hr
      cases ys with
      | nil => simp only [Reps] at hr ⊢; exact hr
      | cons y ys => exact hw.elim
    | cons x xs ih =>
      intro ys vs hw hr
      cases ys with
      | nil => exact hw.elim
      | cons y ys =>
        simp only [Reps] at hr ⊢
        obtain ⟨u, r, rfl, k1, k2⟩ := hr
        refine ⟨u, r, rfl, ?_, ih hw.2 k2⟩
        rcases hw.1 with rfl | ⟨rfl, rfl⟩
        · exact Rep.mono hLe (fun _ h => h) (Keeps.refl S w) _ _ k1
        · simp only [Rep, h1] at k1
          simp only [Rep, mc]; exact k1
  refine ⟨m', S, ⟨⟨h.os, h.tape, h.output, h.size, h.old, h.s0, h.s, fun id p b hp hb => ?_, fun id id' p p' b hd hp hp' hb hb' => ?_, fun i => ?_, h.le.trans hLe⟩, hv1 he hs.env, hs.df, by rw [hk]; exact hs.pre⟩⟩
  · rcases back hp hb with ⟨_, _, q⟩ | ⟨_, _, q⟩
    · exact h.pl a p b q hb
    · exact h.pl id p b q hb
  · rcases back hp hb with ⟨e1, e2, q⟩ | ⟨e1, e2, q⟩ <;> rcases back hp' hb' with ⟨f1, f2, q'⟩ | ⟨f1, f2, q'⟩
    · exact hd (e1.trans f1.symm)
    · exact h.apart a id' p p' b (Ne.symm f2) q q' hb hb'
    · exact h.apart id a p p' b e2 q q' hb hb'
    · exact h.apart id id' p p' b hd q q' hb hb'
  · by_cases e1 : i = c
    · subst e1
      rw [hgc]
      exact ⟨v, mc, h2, h3⟩
    · by_cases e2 : i = a
      · subst e2; rw [hga]; exact ma
      · have hok := h.ok i
        by_cases hl : i < st.H.length
        · rcases mvL_spec ho i hl with q | q | ⟨p, q, q1, q2, q3⟩
          · exact absurd (by omega) e2
          · rw [q]
            exact hok.mono (mo i e2 e1) hLe (fun _ h => h) (Keeps.refl S w) fun p g _ _ => ⟨rfl, fun h => h⟩
          · rw [q2] at hok
            obtain ⟨b, cells, T, k1, k2, k3, k4, k5⟩ := hok
            rw [q1]
            exact ⟨b, cells, T, by rw [mo i e2 e1]; exact k1, k2, hv1 q3 k3, k4, k5⟩
        · rw [getD_none (by omega)] at hok
          have hlen := mvL_len ho
          rw [getD_none (by omega)]
          exact (mo i e2 e1).trans hok
section
variable {P : Program} {o : Oper} {st : St}
/-- A row is frozen as it is made. -/
theorem OpRun.frzNew {R : List Loc} {val : A} {bl : List (Nat × Blk)} (vids : List Nat) (h : OpRun P o st R val bl) (hv : vids.all (fun i => (lastB bl i).isSome) = true) :
    OpRun P o st R (val.view (putB [] bl) vids) (bl ++ vids.map fun id => (id, ((putB [] bl).getD id .unborn).frz)) := by
  intro st' hl hlen cx m S a w hs
  refine runs_mono (h st' hl hlen cx m S a w hs) fun v w' ⟨m', S', k1, k2, k3, k4, k5⟩ => ?_
  have hs0 : ∀ id ∈ vids, (putB st'.H bl).getD id .unborn = (putB [] bl).getD id .unborn := fun id hid => by
    have := List.all_eq_true.1 hv id hid
    obtain ⟨b, hb⟩ := Option.isSome_iff_exists.1 this
    rw [getD_putB, getD_putB, hb]; rfl
  have hF := k4.freeze (vids := vids) (H' := putB st'.H (bl ++ vids.map fun id => (id, ((putB [] bl).getD id .unborn).frz))) fun k => by
    rw [getD_putB, lastB_append]
    have e : lastB (vids.map fun id => (id, ((putB [] bl).getD id .unborn).frz)) k = if k ∈ vids then some ((putB [] bl).getD k .unborn).frz else none := lastB_frz
    rw [e]
    by_cases hk : k ∈ vids
    · rw [if_pos hk, if_pos hk, Option.some_or, Option.getD_some, hs0 k hk]
    · rw [if_neg hk, if_neg hk, Option.none_or, getD_putB]
  have hle := fzm_le k4 vids
  refine ⟨_, _, k1.trans hle, fun b hb => .inl (k2 b hb), k3, hF, ?_⟩
  have := Rep.view (vids := vids) k4 val v k5
  rw [view_congr hs0] at this
  exact Rep.mono hle (fun _ h => h) (Keeps.refl _ w') _ _ this
theorem op_nilCheckLoc {x : Operand} {id off : Nat} {xs : List A} (ho : o.op = .nilCheck x) (hx : opA st x = .loc id off) (hb : st.H.getD id .unborn = .box xs) : OpRun P o st (locOf x ++ [.blk id]) (.loc id off) [] := by
  refine .pure fun st' hag cx m S a w hs => ?_
  have hr := op_rep hx (R := locOf x ++ [.blk id]) (fun l h => by simp [h]) hag hs
  have hb' : st'.H.getD id .unborn = .box xs := (blk1 (by simp) hag).trans hb
  have hok := hs.hold.ok id
  rw [hb'] at hok
  obtain ⟨b, cells, T, h1, _⟩ := hok
  have hr2 := hr
  simp only [Rep, h1] at hr2
  refine ⟨_, ?_, hr⟩
  rw [hr2]
  simp [execOp, ho, hr2]
/-- A part of a frozen slice. -/
theorem op_cut {α : Type} {t e sz : Nat} {x : Operand} {lo hi : Option Operand} {l y : List α} {enc : α → List D} {a b : Nat} (ho : o.op = .slice t x lo hi none) (he : sliceElem P t = some (e, sz)) (hx : opA st x = .d (.sl l.length (flatD enc l))) (hlen : ∀ a, (enc a).length = sz)
    (hlo : boundA st 0 lo a) (hhi : boundA st l.length hi b) (h1 : a ≤ b) (h2 : b ≤ l.length) (hy : y = (l.drop a).take (b - a)) : OpRun P o st (locsOf (x :: (lo.toList ++ hi.toList))) (.d (.sl y.length (flatD enc y))) [] := by
  refine .pure fun st' hag cx m S act w hs => ?_
  have hr := op_rep hx (R := locsOf (x :: (lo.toList ++ hi.toList))) (fun l h => by simp [locsOf, h]) hag hs
  simp only [Rep] at hr
  unfold RepD at hr
  obtain ⟨p, cap, hv, k2, k3, k4, k5⟩ := hr
  have hlo' : boundV act 0 lo a := by
    cases lo with
    | none => exact hlo
    | some z => obtain ⟨k, v, q1, rfl⟩ := hlo; exact ⟨k, op_lit q1 (R := locsOf (x :: ((some z).toList ++ hi.toList))) (fun l h => by simp [locsOf, h]) hag hs⟩
  have hhi' : boundV act l.length hi b := by
    cases hi with
    | none => exact hhi
    | some z =>
      obtain ⟨k, v, q1, rfl⟩ := hhi
      refine ⟨k, op_lit q1 (R := locsOf (x :: (lo.toList ++ (some z).toList))) (fun l h => ?_) hag hs⟩
      exact locs_mem (xs := x :: (lo.toList ++ [z])) (by simp) l h
  refine ⟨_, run_slice ho he hv hlo' hhi' h1 (by omega), ?_⟩
  have hyl : y.length = b - a := by rw [hy, List.length_take, List.length_drop]; omega
  have hcut : flatD enc y = ((flatD enc l).drop (a * sz)).take ((b - a) * sz) := by rw [hy, flat_cut hlen]
  simp only [Rep]
  unfold RepD
  refine ⟨_, cap - a, by rw [hyl], by omega, by omega, fun hn => ?_, ?_⟩
  · split at hn
    · have := k4 hn; omega
    · cases p with
      | none => have := k4 rfl; omega
      | some q => cases hn
  · rw [hcut]
    by_cases hc : cap = a
    · rw [if_pos hc, show b - a = 0 by omega, Nat.zero_mul, List.take_zero]
      simp only [RepDs]
    · rw [if_neg hc]
      cases p with
      | none => have := k4 rfl; omega
      | some q => exact RepDs.take (RepDs.drop k5 (a * sz)) _
end
section
variable {P : Program} {t : TypeId} {x y : Operand} {w : World} {a b : List UInt8}
theorem toList_toS (a : List UInt8) : (toS a).toList = a := by rw [ByteArray.toList_eq]; rfl
theorem hb_tlss : (do eqGuard .lss t x y (.string (toS a)) (.string (toS b)); binOp .lss t (.string (toS a)) (.string (toS b)) : Sem Value).run P w = .ok (.bool (ltS a b)) w := by
  simp [eqGuard, binOp, Op.stringOp, toList_toS, ltS]
theorem hb_tgtr : (do eqGuard .gtr t x y (.string (toS a)) (.string (toS b)); binOp .gtr t (.string (toS a)) (.string (toS b)) : Sem Value).run P w = .ok (.bool (gtS a b)) w := by
  simp [eqGuard, binOp, Op.stringOp, toList_toS, gtS]
theorem hb_tleq : (do eqGuard .leq t x y (.string (toS a)) (.string (toS b)); binOp .leq t (.string (toS a)) (.string (toS b)) : Sem Value).run P w = .ok (.bool (leS a b)) w := by
  simp [eqGuard, binOp, Op.stringOp, toList_toS, leS]
theorem hb_tgeq : (do eqGuard .geq t x y (.string (toS a)) (.string (toS b)); binOp .geq t (.string (toS a)) (.string (toS b)) : Sem Value).run P w = .ok (.bool (!ltS a b)) w := by
  simp [eqGuard, binOp, Op.stringOp, toList_toS, ltS]
theorem hb_sadd {z : List UInt8} (he : z = a ++ b) (hl : a.length + b.length ≤ 1000000000) : (do eqGuard .add t x y (.string (toS a)) (.string (toS b)); binOp .add t (.string (toS a)) (.string (toS b)) : Sem Value).run P w = .ok (.string (toS z)) w := by
  subst he
  have h : ¬ (9223372036854775807 < ((toS a).size : Int) + ((toS b).size : Int)) := by
    show ¬ (9223372036854775807 < (a.length : Int) + (b.length : Int))
    omega
  simp [eqGuard, binOp, Op.stringOp, toList_toS, h, toS_app]
end
end Go.Proofs.Ytdpmojhejidhiaa.K
