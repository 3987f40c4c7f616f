/- The operation that calls: its contract's blocks by the caller's names; what was only read stays one's own (plain results), or is frozen. -/
import Derived.Test.YtdpmojhejidhiaaAf
namespace Go.Proofs.Ytdpmojhejidhiaa.K
open Go.RowKit
set_option linter.unusedVariables false
set_option linter.unusedSimpArgs false

def locOf : Operand → List Loc
  | .tmp t => [.tmp t]
  | _ => []
def locsOf : List Operand → List Loc
  | [] => []
  | x :: xs => locOf x ++ locsOf xs
def blks (ids : List Nat) : List Loc := ids.map .blk
theorem opA_agree {st st' : St} {x : Operand} (h : ∀ l ∈ locOf x, st'.at l = st.at l) : opA st' x = opA st x := by
  cases x with
  | tmp t => have := h (.tmp t) (by simp [locOf]); simpa [St.at, opA] using this
  | _ => rfl
theorem opAs_agree {st st' : St} : ∀ {xs : List Operand}, (∀ l ∈ locsOf xs, st'.at l = st.at l) → xs.map (opA st') = xs.map (opA st)
  | [], _ => rfl
  | x :: xs, h => by
    rw [List.map_cons, List.map_cons, opA_agree fun l hl => h l (by simp [locsOf, hl]), opAs_agree fun l hl => h l (by simp [locsOf, hl])]
theorem blk_agree {st st' : St} {ids : List Nat} (h : ∀ l ∈ blks ids, st'.at l = st.at l) {id : Nat} (hid : id ∈ ids) : st'.H.getD id .unborn = st.H.getD id .unborn := by
  have := h (.blk id) (by simp [blks, hid])
  simpa [St.at] using this
mutual
theorem view_congr {H H' : List Blk} {vids : List Nat} (h : ∀ id ∈ vids, H'.getD id .unborn = H.getD id .unborn) : ∀ x : A, x.view H' vids = x.view H vids
  | .top => rfl
  | .ab p => rfl
  | .d x => rfl
  | .agg xs => by simp only [A.view, views_congr h xs]
  | .tup xs => by simp only [A.view, views_congr h xs]
  | .clo fn f c => by simp only [A.view, views_congr h f, views_congr h c]
  | .own id => by
    simp only [A.view]
    cases hi : inB vids id with
    | false => rfl
    | true => rw [h id (inB_iff.1 hi)]
  | .loc id off => by
    simp only [A.view]
    cases hi : inB vids id with
    | false => rfl
    | true => rw [h id (inB_iff.1 hi)]
  | .sub id off n => by
    simp only [A.view]
    cases hi : inB vids id with
    | false => rfl
    | true => rw [h id (inB_iff.1 hi)]
theorem views_congr {H H' : List Blk} {vids : List Nat} (h : ∀ id ∈ vids, H'.getD id .unborn = H.getD id .unborn) : ∀ xs : List A, A.views H' vids xs = A.views H vids xs
  | [] => rfl
  | x :: xs => by simp only [A.views, view_congr h x, views_congr h xs]
end
theorem renH.congr {ids : List Nat} {post H H' : List Blk} (hr : renH ids post H) (h : ∀ id ∈ ids, H'.getD id .unborn = H.getD id .unborn) : renH ids post H' :=
  ⟨hr.1, fun j k hk => by rw [h k (List.mem_of_getElem? hk)]; exact hr.2 j k hk⟩
theorem runs_mono {P : Program} {R R' : Value → World → Prop} {r : Result Next} (h : RunsUpon P R r) (k : ∀ v w, R v w → R' v w) : RunsUpon P R' r := by
  cases r with
  | ok n w =>
    cases n <;> simp only [RunsUpon] at h ⊢
    case value v => exact k _ _ h
    case skip => exact k _ _ h
    case enter f args => exact Calls.mono h fun e w' ⟨v, he, hr⟩ => ⟨v, he, k _ _ hr⟩
    case row row args => exact h.mono k
  | halt x w => cases x <;> simp only [RunsUpon] at h

/-- Arguments as a contract has them: nil as nil, or as an empty slice. -/
def nnL : List A → List A → Prop
  | [], [] => True
  | z :: zs, y :: ys => (z = y ∨ z = y.nn) ∧ nnL zs ys
  | _, _ => False
theorem nnL_reps {m : Mp} {S : Nat → Prop} {w : World} : ∀ {zs ys : List A} {vs : List Value}, nnL zs ys → Reps m S w ys vs → Reps m S w zs vs
  | [], [], vs, _, h => h
  | z :: zs, y :: ys, vs, hz, h => by
    simp only [Reps] at h ⊢
    obtain ⟨v, r, rfl, h1, h2⟩ := h
    refine ⟨v, r, rfl, ?_, nnL_reps hz.2 h2⟩
    rcases hz.1 with rfl | rfl
    · exact h1
    · exact Rep.nn _ _ h1
  | [], _ :: _, _, hz, _ => hz.elim
  | _ :: _, [], _, hz, _ => hz.elim
theorem nnL_nns : ∀ {ys : List A}, nnL (A.nns ys) ys
  | [] => trivial
  | y :: ys => ⟨.inr rfl, nnL_nns⟩
/-- A call as a caller sees it: the contract's blocks are pids (handed over to be written) and nids (new ones); vids may be read. -/
structure CallOK (P : Program) (st : St) (o : Oper) (callee : Operand) (args : List Operand) (f : FuncId) (first cap xs : List A) (pre : List Blk) (res : A) (post : List Blk) (pids nids vids : List Nat) (val : A) (post' : List Blk) : Prop where
  op : ∃ ats, o.op = .call ⟨.value callee, args.toArray, ats⟩
  fn : opA st callee = .clo (.func f) first cap
  enter : ∀ args w, (callFunc f args).run P w = .ok (.enter f args) w
  con : GCall P f xs pre res post
  hargs : ∃ zs, A.rens pids xs = some zs ∧ nnL zs (A.views st.H vids (first ++ args.map (opA st) ++ cap))
  hpre : renH pids pre st.H
  nodup : (pids ++ nids).Nodup
  hpost : (pids ++ nids).length = post.length ∧ ∀ (j : Nat) (b : Blk), post[j]? = some b → ∃ b', post'[j]? = some b' ∧ b.ren (pids ++ nids) = some b'
  hlen : post'.length = post.length
  nofro : ∀ b ∈ post, b.notFro = true
  new : ∀ id ∈ nids, st.H.getD id .unborn = .unborn
  dis : ∀ id ∈ vids, id ∉ pids ++ nids
  hres : res.ren (pids ++ nids) = some val
section
variable {P : Program} {st : St} {o : Oper} {callee : Operand} {args : List Operand} {f : FuncId} {first cap xs : List A} {pre : List Blk} {res : A} {post : List Blk} {pids nids vids : List Nat} {val : A} {post' : List Blk}
def callR (callee : Operand) (args : List Operand) (pids nids vids : List Nat) : List Loc := locsOf (callee :: args) ++ (blks (pids ++ nids) ++ blks vids)
theorem CallOK.move (h : CallOK P st o callee args f first cap xs pre res post pids nids vids val post') {st' : St} (hl : ∀ l ∈ callR callee args pids nids vids, st'.at l = st.at l) :
    CallOK P st' o callee args f first cap xs pre res post pids nids vids val post' := by
  have h1 : ∀ l ∈ locsOf (callee :: args), st'.at l = st.at l := fun l hm => hl l (by simp [callR, hm])
  have h2 : ∀ l ∈ blks (pids ++ nids), st'.at l = st.at l := fun l hm => hl l (by simp [callR, hm])
  have h3 : ∀ l ∈ blks vids, st'.at l = st.at l := fun l hm => hl l (by simp [callR, hm])
  have e : args.map (opA st') = args.map (opA st) := opAs_agree fun l hm => h1 l (by simp [locsOf, hm])
  exact ⟨h.op, (opA_agree fun l hm => h1 l (by simp [locsOf, hm])).trans h.fn, h.enter, h.con, by rw [e, views_congr fun id hid => blk_agree h3 hid]; exact h.hargs,
    h.hpre.congr fun id hid => blk_agree h2 (by simp [hid]), h.nodup, h.hpost, h.hlen, h.nofro, fun id hid => (blk_agree h2 (by simp [hid])).trans (h.new id hid), h.dis, h.hres⟩
theorem call_core {cx : Cx} {m : Mp} {S : Nat → Prop} {w : World} {H : List Blk} (hH : Hold cx m S w H) (con : GCall P f xs pre res post) {ys : List A} {vs : List Value} (hargs : Reps m (SV' m S vids) w ys vs) (hr : A.rens pids xs = some ys)
    (hpre : renH pids pre H) (hn : (pids ++ nids).Nodup) (hdis : ∀ id ∈ vids, id ∉ pids ++ nids) :
    Calls P f vs.toArray w (fun e w' => ∃ v, e = .returned v ∧ ∃ m1 S1, Hold ⟨w, SV' m S vids, P0of (via pids m) (SV' m S vids), via pids m⟩ m1 S1 w' post ∧ Rep m1 S1 w' res v) := by
  have hcall := con (via pids m) (SV' m S vids) w vs ?_ ((Reps.via xs _ _ hr).2 hargs)
  · exact Calls.mono hcall fun e w' ⟨v, m1, S1, he, h1, h2⟩ => ⟨v, he, m1, S1, h1, h2⟩
  · have hpn : pids.Nodup := (List.nodup_append.1 hn).1
    refine ⟨rfl, rfl, rfl, Nat.le_refl _, fun _ _ _ => rfl, fun _ h => h, fun b hb => ⟨.inl hb, ?_⟩, fun id p b hp hb => ?_, fun id id' p p' b hne hp hp' hb => ?_, fun j => ?_, Le.refl _⟩
    · rcases hb with hb | ⟨k, p, _, h2, h3⟩
      · exact (hH.s b hb).2
      · exact (hH.pl k p b h2 h3).2
    · obtain ⟨k, _, hk⟩ := via_some hp
      refine ⟨?_, (hH.pl k p b hk hb).2⟩
      by_cases hSb : SV' m S vids b
      · exact .inr (.inl hSb)
      · exact .inl ⟨id, p, hp, hb, hSb⟩
    · obtain ⟨k, h1, hk⟩ := via_some hp
      obtain ⟨k', h1', hk'⟩ := via_some hp'
      refine hH.apart k k' p p' b (fun he => hne ?_) hk hk' hb
      subst he
      exact (List.getElem?_inj (List.getElem?_eq_some_iff.1 h1).1 hpn).1 (h1.trans h1'.symm)
    · rcases Nat.lt_or_ge j pids.length with hj | hj
      · have hk : pids[j]? = some pids[j] := List.getElem?_eq_getElem hj
        refine (BlkOK.via hk (hpre.2 j _ hk)).2 ((hH.ok _).mono rfl (Le.refl m) (fun _ h => .inl h) (Keeps.refl S w) fun p g hp hg => ⟨rfl, ?_⟩)
        rintro (hb | ⟨k, q, h2, h3, h4⟩)
        · exact hb
        · exact absurd hg (hH.apart k _ q p g (fun e => hdis k h2 (by rw [e]; simp)) h3 hp h4)
      · rw [getD_none (by rw [← hpre.1]; exact hj)]
        simp only [BlkOK, K.via, List.getElem?_eq_none hj, Option.bind_none]
/-- What the operation does: it enters the function, with what its slots hold. -/
theorem CallOK.enters (h : CallOK P st o callee args f first cap xs pre res post pids nids vids val post') {cx : Cx} {m : Mp} {S : Nat → Prop} {a : Act} {w : World} (hs : Sim cx m S a w st) :
    ∃ vs : List Value, (execOp a.eval o).run P w = .ok (.enter f vs.toArray) w ∧ Reps m S w (first ++ args.map (opA st) ++ cap) vs := by
  obtain ⟨ats, hop⟩ := h.op
  have hfn := hs.op callee
  rw [h.fn] at hfn
  simp only [Rep] at hfn
  obtain ⟨vf, vc, hev, hrf, hrc⟩ := hfn
  have e : (execOp a.eval o).run P w = .ok (.enter f (vf ++ args.toArray.map a.eval ++ vc)) w := by
    simp [execOp, hop, resolve, hev, Deferred.ofValue, invoke, h.enter]
  refine ⟨vf.toList ++ args.map a.eval ++ vc.toList, by rw [e]; congr 2; apply Array.ext'; simp, ?_⟩
  refine (hrf.append (Reps.of (by simp) fun i x v hx hv => ?_)).append hrc
  rw [List.getElem?_map] at hx hv
  cases hi : args[i]? with
  | none => rw [hi] at hx; cases hx
  | some y => rw [hi] at hx hv; cases hx; cases hv; exact hs.op y
theorem CallOK.run (h : CallOK P st o callee args f first cap xs pre res post pids nids vids val post') {cx : Cx} {m : Mp} {S : Nat → Prop} {a : Act} {w : World} (hs : Sim cx m S a w st) :
    RunsUpon P (fun v w' => ∃ m1 S1, Hold ⟨w, SV' m S vids, P0of (via pids m) (SV' m S vids), via pids m⟩ m1 S1 w' post ∧ Rep m1 S1 w' res v) ((execOp a.eval o).run P w) := by
  obtain ⟨vs, e, hargs⟩ := h.enters hs
  rw [e]
  exact call_core (nids := nids) hs.hold h.con (nnL_reps h.hargs.choose_spec.2 (Reps.view hs.hold _ _ hargs)) h.hargs.choose_spec.1 h.hpre h.nodup h.dis
/-- Own blocks are frozen. -/
def fzm (m : Mp) (H : List Blk) (vids : List Nat) : Mp := fun k => match inB vids k, H.getD k .unborn with | true, .box _ => some .gone | _, _ => m k
theorem fzm_le {cx : Cx} {m : Mp} {S : Nat → Prop} {w : World} {H : List Blk} (h : Hold cx m S w H) (vids : List Nat) : Le m (fzm m H vids) := by
  intro id p hp
  unfold fzm
  split
  · exact .inr rfl
  · exact .inl hp
theorem fzm_some {m : Mp} {H : List Blk} {vids : List Nat} {id : Nat} {p : Pl} {b : Nat} (h : fzm m H vids id = some p) (hb : p.blk = some b) : m id = some p := by
  unfold fzm at h
  split at h
  · cases h; cases hb
  · exact h
theorem Hold.freeze {cx : Cx} {m : Mp} {S : Nat → Prop} {w : World} {H H' : List Blk} {vids : List Nat} (h : Hold cx m S w H) (hH : ∀ k, H'.getD k .unborn = if k ∈ vids then (H.getD k .unborn).frz else H.getD k .unborn) : Hold cx (fzm m H vids) (SV' m S vids) w H' := by
  refine ⟨h.os, h.tape, h.output, h.size, h.old, fun b hb => .inl (h.s0 b hb), fun b hb => ?_, fun id p b hp hb => h.pl id p b (fzm_some hp hb) hb, fun id id' p p' b hne hp hp' hb => ?_, fun k => ?_, h.le.trans (fzm_le h vids)⟩
  · rcases hb with hb | ⟨k, p, _, h2, h3⟩
    · exact h.s b hb
    · refine ⟨?_, (h.pl k p b h2 h3).2⟩
      rcases (h.pl k p b h2 h3).1 with h4 | h4 | h4
      · exact .inr (.inl h4)
      · exact .inl h4
      · exact .inr (.inr h4)
  · intro hb'
    exact h.apart id id' p p' b hne (fzm_some hp hb) (fzm_some hp' hb') hb hb'
  · rw [hH]
    have hk := h.ok k
    by_cases hv : k ∈ vids
    · rw [if_pos hv]
      have hi : inB vids k = true := inB_iff.2 hv
      cases hb : H.getD k .unborn with
      | unborn => rw [hb] at hk; simp only [Blk.frz, BlkOK, fzm, hi, hb]; exact hk
      | gone => rw [hb] at hk; simp only [Blk.frz, BlkOK, fzm, hi, hb]; exact hk
      | box xs => simp only [Blk.frz, BlkOK, fzm, hi, hb]
      | arr e sz n xs =>
        rw [hb] at hk
        obtain ⟨v, h1, ⟨cells, h2, h3, h4⟩, h5⟩ := hk
        simp only [Blk.frz, BlkOK, fzm, hi, hb]
        exact ⟨v, h1, ⟨cells, h2, h3.mono (fun _ h => .inl h) (Keeps.refl S w), h4⟩, fun g hg => .inr ⟨k, _, hv, h1, hg⟩⟩
      | fro e sz n xs =>
        rw [hb] at hk
        obtain ⟨v, h1, ⟨cells, h2, h3, h4⟩, h5⟩ := hk
        simp only [Blk.frz, BlkOK, fzm, hi, hb]
        exact ⟨v, h1, ⟨cells, h2, h3.mono (fun _ h => .inl h) (Keeps.refl S w), h4⟩, fun g hg => .inl (h5 g hg)⟩
    · rw [if_neg hv]
      have hi : inB vids k = false := by
        cases hb : inB vids k with
        | false => rfl
        | true => exact absurd (inB_iff.1 hb) hv
      refine hk.mono (by simp only [fzm, hi]) (fzm_le h vids) (fun _ h => .inl h) (Keeps.refl S w) fun p g hp hg => ⟨rfl, ?_⟩
      rintro (hb | ⟨k', q, h2, h3, h4⟩)
      · exact hb
      · exact absurd hg (h.apart k' k q p g (fun e => hv (e ▸ h2)) h3 hp h4)

theorem lastB_zip : ∀ {ids : List Nat} {bs : List Blk} {j k : Nat} {b : Blk}, ids.Nodup → ids[j]? = some k → bs[j]? = some b → lastB (ids.zip bs) k = some b
  | [], bs, j, k, b, hn, h, hb => by simp at h
  | i :: ids, [], j, k, b, hn, h, hb => by simp at hb
  | i :: ids, c :: bs, 0, k, b, hn, h, hb => by
    simp only [List.getElem?_cons_zero, Option.some.injEq] at h hb
    subst h; subst hb
    simp only [List.zip_cons_cons, lastB]
    have : lastB (ids.zip bs) i = none := by
      cases hl : lastB (ids.zip bs) i with
      | none => rfl
      | some b =>
        have h1 := lastB_mem (bl := ids.zip bs) (j := i) (by simp [hl])
        obtain ⟨q, hq, hqe⟩ := List.mem_map.1 h1
        have : q.1 ∈ ids := (List.of_mem_zip (a := q.1) (b := q.2) hq).1
        rw [hqe] at this
        exact absurd this (List.nodup_cons.1 hn).1
    rw [this]; simp
  | i :: ids, c :: bs, j + 1, k, b, hn, h, hb => by
    simp only [List.zip_cons_cons, lastB]
    rw [lastB_zip (List.nodup_cons.1 hn).2 (by simpa using h) (by simpa using hb)]
theorem lastB_zip_none {ids : List Nat} {bs : List Blk} {k : Nat} (h : k ∉ ids) : lastB (ids.zip bs) k = none := by
  cases hl : lastB (ids.zip bs) k with
  | none => rfl
  | some b =>
    have h1 := lastB_mem (bl := ids.zip bs) (j := k) (by simp [hl])
    obtain ⟨q, hq, hqe⟩ := List.mem_map.1 h1
    have : q.1 ∈ ids := (List.of_mem_zip (a := q.1) (b := q.2) hq).1
    rw [hqe] at this
    exact absurd this h
theorem lastB_append : ∀ (l r : List (Nat × Blk)) (k : Nat), lastB (l ++ r) k = (lastB r k).or (lastB l k)
  | [], r, k => by simp [lastB]
  | p :: l, r, k => by
    rw [List.cons_append, lastB, lastB_append l r k, lastB]
    cases lastB r k <;> cases lastB l k <;> rfl
theorem lastB_frz {H : List Blk} : ∀ {vids : List Nat} {k : Nat}, lastB (vids.map fun id => (id, (H.getD id .unborn).frz)) k = if k ∈ vids then some (H.getD k .unborn).frz else none
  | [], k => by simp [lastB]
  | v :: vids, k => by
    rw [List.map_cons, lastB, lastB_frz (vids := vids)]
    by_cases h : k ∈ vids
    · simp [h]
    · by_cases hk : k = v
      · subst hk; simp [h]
      · simp [h, hk]
mutual
theorem plain_ren {ids : List Nat} : ∀ x y : A, x.Plain → x.ren ids = some y → y.Plain
  | .top, y, hp, h => by simp only [A.ren, Option.some.injEq] at h; subst h; exact hp
  | .ab p, y, hp, h => by simp only [A.ren, Option.some.injEq] at h; subst h; exact hp
  | .d x, y, hp, h => by simp only [A.ren, Option.some.injEq] at h; subst h; exact hp
  | .agg xs, y, hp, h => by
    simp only [A.ren] at h
    cases hr : A.rens ids xs with
    | none => rw [hr] at h; cases h
    | some ys => rw [hr] at h; simp only [Option.some.injEq] at h; subst h; exact plains_ren xs ys hp hr
  | .tup xs, y, hp, h => by
    simp only [A.ren] at h
    cases hr : A.rens ids xs with
    | none => rw [hr] at h; cases h
    | some ys => rw [hr] at h; simp only [Option.some.injEq] at h; subst h; exact plains_ren xs ys hp hr
  | .clo fn f c, y, hp, h => by
    simp only [A.ren] at h
    cases hf : A.rens ids f with
    | none => rw [hf] at h; simp at h
    | some f' =>
      cases hc : A.rens ids c with
      | none => rw [hf, hc] at h; simp at h
      | some c' => rw [hf, hc] at h; simp only [Option.some.injEq] at h; subst h; exact ⟨plains_ren f f' hp.1 hf, plains_ren c c' hp.2 hc⟩
  | .loc id off, y, hp, h => by
    simp only [A.ren] at h
    cases hr : ids[id]? with
    | none => rw [hr] at h; cases h
    | some k => rw [hr] at h; simp only [Option.some.injEq] at h; subst h; trivial
  | .own id, y, hp, h => by
    simp only [A.ren] at h
    cases hr : ids[id]? with
    | none => rw [hr] at h; cases h
    | some k => rw [hr] at h; simp only [Option.some.injEq] at h; subst h; trivial
  | .sub id off n, y, hp, h => by
    simp only [A.ren] at h
    cases hr : ids[id]? with
    | none => rw [hr] at h; cases h
    | some k => rw [hr] at h; simp only [Option.some.injEq] at h; subst h; trivial
theorem plains_ren {ids : List Nat} : ∀ xs ys : List A, A.Plains xs → A.rens ids xs = some ys → A.Plains ys
  | [], ys, hp, h => by simp only [A.rens, Option.some.injEq] at h; subst h; trivial
  | x :: xs, ys, hp, h => by
    simp only [A.rens] at h
    cases hx : A.ren ids x with
    | none => rw [hx] at h; simp at h
    | some y =>
      cases hr : A.rens ids xs with
      | none => rw [hx, hr] at h; simp at h
      | some zs => rw [hx, hr] at h; simp only [Option.some.injEq] at h; subst h; exact ⟨plain_ren x y hp.1 hx, plains_ren xs zs hp.2 hr⟩
end
/-- A call whose results are plain. -/
theorem CallOK.plain (h : CallOK P st o callee args f first cap xs pre res post pids nids vids val post') (hp : res.Plain ∧ ∀ b ∈ post, b.Plain) :
    OpRun P o st (callR callee args pids nids vids) val ((pids ++ nids).zip post') := by
  intro st' hl _ cx m S a w hs
  have h' := h.move hl
  refine runs_mono (h'.run hs) fun v w' ⟨m1, S1, h1, h2⟩ => ?_
  obtain ⟨m2, hv, hLe, hK, hother, hfree, hV, hold⟩ := merge hs.hold h'.nodup h'.hpre h'.hpost h'.nofro h'.new h'.dis h1
  refine ⟨m2, S, hLe, fun _ h => h, hK, hold S _ (fun _ h => h) (fun b hb => h1.s0 b (.inl hb)) (fun j k hj => ?_) (fun k hk => ?_) (fun k hk hkv => ?_), ?_⟩
  · have hjl : j < post.length := by rw [← h'.hpost.1]; exact (List.getElem?_eq_some_iff.1 hj).1
    refine ⟨BlkOK.plain (hp.2 _ (List.mem_of_getElem? (getD_some hjl))) (fun b hb => h1.s0 b (.inl hb)) (h1.ok j), ?_⟩
    obtain ⟨b', h4, _⟩ := h'.hpost.2 j _ (getD_some hjl)
    rw [← List.getD_eq_getElem?_getD, getD_putB, lastB_zip h'.nodup hj h4, h4]
    rfl
  · rw [getD_putB, lastB_zip_none (h'.dis k hk)]
    refine (hs.hold.ok k).mono (hother k (h'.dis k hk)) hLe (fun _ h => h) hK fun p g h3 h4 => ⟨(hV g ⟨k, p, hk, h3, h4⟩).1, fun h => h⟩
  · rw [getD_putB, lastB_zip_none hk]; rfl
  · rw [← hv] at h2
    exact Rep.plain _ _ (plain_ren res val hp.1 h'.hres) ((Rep.via res val v h'.hres).1 h2)
/-- A call whose results may lie in what it was shown: that is frozen. -/
theorem CallOK.frozen (h : CallOK P st o callee args f first cap xs pre res post pids nids vids val post') :
    OpRun P o st (callR callee args pids nids vids) val ((pids ++ nids).zip post' ++ vids.map fun id => (id, (st.H.getD id .unborn).frz)) := by
  intro st' hl _ cx m S a w hs
  have h' := h.move hl
  have ev : (vids.map fun id => (id, (st.H.getD id .unborn).frz)) = vids.map fun id => (id, (st'.H.getD id .unborn).frz) :=
    List.map_congr_left fun id hid => by rw [blk_agree (st := st) (st' := st') (ids := vids) (fun l hm => hl l (by simp [callR, hm])) hid]
  rw [ev]
  obtain ⟨vs, e, hargs⟩ := h'.enters hs
  rw [e]
  have hF : Hold cx (fzm m st'.H vids) (SV' m S vids) w (putB st'.H (vids.map fun id => (id, (st'.H.getD id .unborn).frz))) := hs.hold.freeze fun k => by
    rw [getD_putB, lastB_frz]
    by_cases hk : k ∈ vids <;> simp [hk]
  have hle := fzm_le hs.hold vids
  have hsame : ∀ k, k ∉ vids → (putB st'.H (vids.map fun id => (id, (st'.H.getD id .unborn).frz))).getD k .unborn = st'.H.getD k .unborn := fun k hk => by
    rw [getD_putB, lastB_frz, if_neg hk]; rfl
  have hnv : ∀ k, k ∈ pids ++ nids → k ∉ vids := fun k hk hv => h'.dis k hv hk
  have hpre' : renH pids pre (putB st'.H (vids.map fun id => (id, (st'.H.getD id .unborn).frz))) := h'.hpre.congr fun id hid => hsame id (hnv id (by simp [hid]))
  have hdis' : ∀ id ∈ ([] : List Nat), id ∉ pids ++ nids := fun id hid => by cases hid
  have hrun := call_core (vids := []) (nids := nids) hF h'.con (Reps.mono hle (fun _ h => .inl h) (Keeps.refl _ w) _ _ (nnL_reps h'.hargs.choose_spec.2 (Reps.view hs.hold _ _ hargs))) h'.hargs.choose_spec.1 hpre' h'.nodup hdis'
  refine Calls.mono hrun fun e w' ⟨v, he, m1, S1, h1, h2⟩ => ⟨v, he, ?_⟩
  obtain ⟨m2, hv, hLe, hK, hother, hfree, hV, hold⟩ := merge hF h'.nodup hpre' h'.hpost h'.nofro (fun id hid => (hsame id (hnv id (by simp [hid]))).trans (h'.new id hid)) hdis' h1
  refine ⟨m2, S1, hle.trans hLe, fun b hb => h1.s0 b (.inl (.inl hb)), fun b hb => hK b (.inl hb), ?_, ?_⟩
  · refine hold S1 _ (fun b hb => h1.s0 b (.inl hb)) (fun _ h => h) (fun j k hj => ?_) (fun k hk => by cases hk) (fun k hk _ => ?_)
    · have hjl : j < post.length := by rw [← h'.hpost.1]; exact (List.getElem?_eq_some_iff.1 hj).1
      refine ⟨h1.ok j, ?_⟩
      obtain ⟨b', h4, _⟩ := h'.hpost.2 j _ (getD_some hjl)
      have hkm : k ∈ pids ++ nids := List.mem_of_getElem? hj
      rw [← List.getD_eq_getElem?_getD, getD_putB, lastB_append, lastB_frz, if_neg (hnv k hkm), Option.none_or, lastB_zip h'.nodup hj h4, h4]
      rfl
    · rw [getD_putB, getD_putB, lastB_append, lastB_zip_none hk, Option.or_none]
  · rw [← hv] at h2
    exact (Rep.via res val v h'.hres).1 h2
end
end Go.Proofs.Ytdpmojhejidhiaa.K
