/- A function's body gives its contract; a contract serves at a call. -/
import Derived.Test.YtdpmojhejidhiaaAc
namespace Go.Proofs.Ytdpmojhejidhiaa.K
open Go.RowKit
set_option linter.unusedVariables false
set_option linter.unusedSimpArgs false

theorem getD_none {H : List Blk} {j : Nat} (h : H.length ≤ j) : H.getD j .unborn = .unborn := by rw [List.getD_eq_getElem?_getD, List.getElem?_eq_none h]; rfl
theorem getD_some {H : List Blk} {j : Nat} (h : j < H.length) : H[j]? = some (H.getD j .unborn) := by rw [List.getD_eq_getElem?_getD, List.getElem?_eq_getElem h]; rfl
/-- Some of the blocks, by other names. -/
def renH (ids : List Nat) (post H : List Blk) : Prop := ids.length = post.length ∧ ∀ j k, ids[j]? = some k → (post.getD j .unborn).ren ids = some (H.getD k .unborn)
theorem via_some {ids : List Nat} {m : Mp} {j : Nat} {p : Pl} (h : via ids m j = some p) : ∃ k, ids[j]? = some k ∧ m k = some p := by
  unfold via at h
  cases hk : ids[j]? with
  | none => rw [hk] at h; cases h
  | some k => rw [hk] at h; exact ⟨k, rfl, h⟩
theorem Hold.via {cx : Cx} {m : Mp} {S : Nat → Prop} {w : World} {H post : List Blk} {ids : List Nat} (h : Hold cx m S w H) (hn : ids.Nodup) (hr : renH ids post H) (hle : Le cx.m0 (via ids m)) : Hold cx (via ids m) S w post := by
  refine ⟨h.os, h.tape, h.output, h.size, h.old, h.s0, h.s, fun id p b hp hb => ?_, fun id id' p p' b hne hp hp' hb => ?_, fun j => ?_, hle⟩
  · obtain ⟨k, _, hk⟩ := via_some hp; exact h.pl k p b hk hb
  · obtain ⟨k, h1, hk⟩ := via_some hp
    obtain ⟨k', h1', hk'⟩ := via_some hp'
    refine h.apart k k' p p' b (fun he => hne ?_) hk hk' hb
    subst he
    exact (List.getElem?_inj (List.getElem?_eq_some_iff.1 h1).1 hn).1 (h1.trans h1'.symm)
  · rcases Nat.lt_or_ge j ids.length with hj | hj
    · have hk : ids[j]? = some ids[j] := List.getElem?_eq_getElem hj
      exact (BlkOK.via hk (hr.2 j _ hk)).2 (h.ok _)
    · rw [getD_none (by rw [← hr.1]; exact hj)]
      simp only [BlkOK, K.via, List.getElem?_eq_none hj, Option.bind_none]

section
variable {P : Program}
theorem run_results {cx : Cx} {m : Mp} {S : Nat → Prop} {a : Act} {w : World} {st : St} (hs : Sim cx m S a w st) : ∀ {rs : List ResultVar} {xs : List A}, resList P st rs = some xs →
    ∃ vs, (rs.mapM (fun r : ResultVar => (match r with | .tmp t => pure (a.tmps.getD t undef) | .cell c t => do loadVar t (← asAddr (a.tmps.getD c undef)) : Sem Value))).run P w = .ok vs w ∧ Reps m S w xs vs
  | [], xs, h => by
    simp only [resList, Option.some.injEq] at h; subst h
    exact ⟨[], by simp, by simp only [Reps]⟩
  | r :: rs, xs, h => by
    simp only [resList] at h
    cases hx : resOf P st r with
    | none => rw [hx] at h; simp at h
    | some x =>
      cases hr : resList P st rs with
      | none => rw [hx, hr] at h; simp at h
      | some ys =>
        rw [hx, hr] at h; simp only [Option.some.injEq] at h; subst h
        obtain ⟨vs, h1, h2⟩ := run_results hs hr
        have key : ∃ v, (match r with | .tmp t => pure (a.tmps.getD t undef) | .cell c t => do loadVar t (← asAddr (a.tmps.getD c undef)) : Sem Value).run P w = .ok v w ∧ Rep m S w x v := by
          cases r with
          | tmp t =>
            simp only [resOf, Option.some.injEq] at hx; subst hx
            exact ⟨_, rfl, hs.slot t⟩
          | cell c t =>
            simp only [resOf] at hx
            have hc := hs.slot c
            split at hx
            · rename_i id off he
              rw [he] at hc
              split at hx
              · rename_i xs hb
                have hok := hs.hold.ok id
                rw [hb] at hok
                obtain ⟨b, cells, T, h3, h4, h5, h6, h7⟩ := hok
                simp only [Rep, h3] at hc
                obtain ⟨v, h8, h9⟩ := run_loadA hx h4 h5
                exact ⟨v, by simp only [hc]; simpa [asAddr] using h8, h9⟩
              · cases hx
            · cases hx
        obtain ⟨v, h3, h4⟩ := key
        refine ⟨v :: vs, ?_, by simp only [Reps]; exact ⟨v, vs, rfl, h4, h2⟩⟩
        rw [List.mapM_cons]
        simp only [Sem.run_bind, h3, Result.andThen_ok, h1, Sem.run_pure]
theorem results_run {fn : Func} {cx : Cx} {m : Mp} {S : Nat → Prop} {a : Act} {w : World} {st : St} (hs : Sim cx m S a w st) {rs : List ResultVar} (hrs : fn.results = rs.toArray) {xs : List A} (h : resList P st rs = some xs) :
    ∃ v, (results fn a.tmps).run P w = .ok v w ∧ Rep m S w (one xs) v := by
  obtain ⟨vs, h1, h2⟩ := run_results hs h
  have e : (fn.results.mapM (fun r : ResultVar => (match r with | .tmp t => pure (a.tmps.getD t undef) | .cell c t => do loadVar t (← asAddr (a.tmps.getD c undef)) : Sem Value))).run P w = .ok vs.toArray w := by
    rw [hrs, List.mapM_toArray]
    simp only [Sem.run_map, h1, Result.andThen_ok]
  have e2 : (results fn a.tmps).run P w = .ok (if h : vs.toArray.size = 1 then vs.toArray[0] else .tuple vs.toArray) w := by
    unfold results
    simp only [Sem.run_bind]
    erw [e]
    simp only [Result.andThen_ok, Sem.run_pure]
  refine ⟨_, e2, ?_⟩
  have hl := h2.length
  match xs, vs, h2, hl with
  | [], vs, h2, hl =>
    have : vs = [] := List.eq_nil_of_length_eq_zero (by simpa using hl)
    subst this
    simp only [one, Rep]; exact ⟨_, rfl, h2⟩
  | [x], vs, h2, hl =>
    simp only [Reps] at h2
    obtain ⟨v, r, rfl, h3, rfl⟩ := h2
    simpa [one] using h3
  | x :: y :: zs, vs, h2, hl =>
    have hne : ¬ vs.toArray.size = 1 := by simp at hl ⊢; omega
    rw [dif_neg hne]
    simp only [one, Rep]; exact ⟨_, rfl, h2⟩

/-- What stands at a function's end: its results, the blocks that it was handed, and those that it hands over. -/
def RetK (P : Program) (rs : List ResultVar) (k : Nat) (res : A) (post : List Blk) : Exit → St → Prop
  | .normal, st | .ret, st => ∃ (ids : List Nat) (xs : List A), resList P st rs = some xs ∧ res.ren ids = some (one xs).nn ∧ renH ids post st.H ∧ ids.Nodup ∧ k ≤ ids.length ∧ ids.take k = List.range k
  | _, _ => False
theorem GCall.of_body {f : FuncId} {fn : Func} {c : Code} {args : List A} {pre post : List Blk} {res : A} {rs : List ResultVar} {n : Nat} (hf : P.funcs[f]? = some fn) (hb : fn.body = some c) (hrs : fn.results = rs.toArray) (hn : fn.ntmps = n)
    (h : AWP P (RetK P rs pre.length res post) c ⟨args ++ List.replicate (n - args.length) (.tup []), pre, pre.length⟩) : GCall P f args pre res post := by
  intro m S w vs hH hargs
  refine calls_of_wp hf hb ?_
  have hlen := hargs.length
  have hsim : Sim ⟨w, S, P0of m S, m⟩ m S { tmps := vs.toArray ++ Array.replicate (fn.ntmps - vs.toArray.size) undef, defers := [] } w ⟨args ++ List.replicate (n - args.length) (.tup []), pre, pre.length⟩ := by
    refine ⟨hH, ?_, rfl, fun id hid => by have := hH.ok id; rw [getD_none hid] at this; exact this⟩
    have : (vs.toArray ++ Array.replicate (fn.ntmps - vs.toArray.size) undef).toList = vs ++ List.replicate (n - args.length) undef := by simp [hn, hlen]
    rw [this]
    refine hargs.append (Reps.of (by simp) fun i x v hx hv => ?_)
    rw [List.getElem?_replicate] at hx hv
    split at hx
    · rename_i hi; rw [if_pos hi] at hv; cases hx; cases hv; simp only [Rep, Reps]; exact ⟨_, rfl, rfl⟩
    · cases hx
  refine wp_mono (h _ m S _ w hsim) fun e a' w' ⟨st', m', S', hk, hs'⟩ => ?_
  have key : ∀ (ids : List Nat) (xs : List A), resList P st' rs = some xs → res.ren ids = some (one xs).nn → renH ids post st'.H → ids.Nodup → pre.length ≤ ids.length → ids.take pre.length = List.range pre.length →
      (∃ v, (results fn a'.tmps).run P w' = .ok v w' ∧ ∃ v' m' S', Ending.returned v = .returned v' ∧ Hold ⟨w, S, P0of m S, m⟩ m' S' w' post ∧ Rep m' S' w' res v') := by
    intro ids xs h1 h2 h3 h4 h5 h6
    obtain ⟨v, h7, h8⟩ := results_run hs' hrs h1
    refine ⟨v, h7, v, via ids m', S', rfl, hs'.hold.via h4 h3 fun id p hp => ?_, (Rep.via res _ v h2).2 (Rep.nn _ _ h8)⟩
    have hid : id < pre.length := by
      rcases Nat.lt_or_ge id pre.length with h | h
      · exact h
      · have := hH.ok id; rw [getD_none h] at this; simp only [BlkOK] at this; simp only at hp; rw [this] at hp; cases hp
    have hk : ids[id]? = some id := by
      have : (ids.take pre.length)[id]? = some id := by rw [h6, List.getElem?_range hid]
      rwa [List.getElem?_take, if_pos hid] at this
    simp only [K.via, hk, Option.bind_some]
    exact hs'.hold.le id p hp
  cases e with
  | normal =>
    obtain ⟨ids, xs, h1, h2, h3, h4, h5, h6⟩ := hk
    obtain ⟨v, h7, h8⟩ := key ids xs h1 h2 h3 h4 h5 h6
    exact ⟨hs'.df, v, h7, h8⟩
  | ret =>
    obtain ⟨ids, xs, h1, h2, h3, h4, h5, h6⟩ := hk
    obtain ⟨v, h7, h8⟩ := key ids xs h1 h2 h3 h4 h5 h6
    exact ⟨hs'.df, v, h7, h8⟩
  | exit id => exact hk.elim
  | goto l => exact hk.elim
  | panic ch => exact hk.elim
  | outgrown => exact hk.elim
end
end Go.Proofs.Ytdpmojhejidhiaa.K
