/- A contract serves at a call, in whatever order. -/
import Derived.Test.YtdpmojhejidhiaaAe
namespace Go.Proofs.Ytdpmojhejidhiaa.K
open Go.RowKit
set_option linter.unusedVariables false
set_option linter.unusedSimpArgs false

def posOf : List Nat → Nat → Option Nat
  | [], _ => none
  | x :: l, k => if k = x then some 0 else (posOf l k).map (· + 1)
theorem posOf_get : ∀ {ids : List Nat} {k j : Nat}, posOf ids k = some j → ids[j]? = some k
  | [], k, j, h => by simp [posOf] at h
  | x :: l, k, j, h => by
    rw [posOf] at h
    split at h
    · rename_i hk; simp only [Option.some.injEq] at h; subst h; simp [hk]
    · cases hp : posOf l k with
      | none => rw [hp] at h; cases h
      | some i => rw [hp] at h; simp only [Option.map_some, Option.some.injEq] at h; subst h; simpa using posOf_get hp
theorem posOf_none : ∀ {ids : List Nat} {k : Nat}, posOf ids k = none → k ∉ ids
  | [], k, h => by simp
  | x :: l, k, h => by
    rw [posOf] at h
    split at h
    · cases h
    · rename_i hk
      have : posOf l k = none := by simpa using h
      simp only [List.mem_cons, not_or]; exact ⟨hk, posOf_none this⟩
theorem posOf_of {ids : List Nat} {k j : Nat} (hn : ids.Nodup) (h : ids[j]? = some k) : posOf ids k = some j := by
  cases hp : posOf ids k with
  | none => exact absurd (List.mem_of_getElem? h) (posOf_none hp)
  | some i =>
    have := posOf_get hp
    rw [(List.getElem?_inj (List.getElem?_eq_some_iff.1 this).1 hn).1 (this.trans h.symm)]
def Blk.notFro : Blk → Bool
  | .fro .. => false
  | _ => true
def Blk.frz : Blk → Blk
  | .arr e sz n xs => .fro e sz n xs
  | .box _ => .gone
  | b => b
def D.Plain : D → Prop
  | .lit _ => True
  | .nil => True
  | .sl _ [] => True
  | _ => False
mutual
def A.Plain : A → Prop
  | .d x => x.Plain
  | .agg xs => A.Plains xs
  | .tup xs => A.Plains xs
  | .clo _ f c => A.Plains f ∧ A.Plains c
  | _ => True
def A.Plains : List A → Prop
  | [] => True
  | x :: xs => A.Plain x ∧ A.Plains xs
end
def Blk.Plain : Blk → Prop
  | .box xs => A.Plains xs
  | .arr _ _ _ xs => ∀ x ∈ xs, x.Plain
  | .fro .. => False
  | _ => True
section
variable {m : Mp} {S S' : Nat → Prop} {w w' : World}
theorem RepD.plain {x : D} {v : Value} (hp : x.Plain) (h : RepD S w x v) : RepD S' w' x v := by
  cases x with
  | lit u => simpa only [RepD] using h
  | nil => simpa only [RepD] using h
  | sl n cs =>
    cases cs with
    | nil => simpa only [RepD, RepDs] using h
    | cons c cs => exact hp.elim
  | ref _ => exact hp.elim
  | slc _ _ => exact hp.elim
mutual
theorem Rep.plain : ∀ (x : A) (v : Value), x.Plain → Rep m S w x v → Rep m S' w' x v
  | .top, v, hp, h => by simp only [Rep]
  | .ab p, v, hp, h => by simpa only [Rep] using h
  | .d x, v, hp, h => by simp only [Rep] at h ⊢; exact RepD.plain hp h
  | .agg xs, v, hp, h => by
    simp only [Rep] at h ⊢
    obtain ⟨vs, h1, h2⟩ := h
    exact ⟨vs, h1, Reps.plain xs _ hp h2⟩
  | .tup xs, v, hp, h => by
    simp only [Rep] at h ⊢
    obtain ⟨vs, h1, h2⟩ := h
    exact ⟨vs, h1, Reps.plain xs _ hp h2⟩
  | .clo fn f c, v, hp, h => by
    simp only [Rep] at h ⊢
    obtain ⟨vs, cs, h1, h2, h3⟩ := h
    exact ⟨vs, cs, h1, Reps.plain f _ hp.1 h2, Reps.plain c _ hp.2 h3⟩
  | .loc id off, v, hp, h => by simpa only [Rep] using h
  | .own id, v, hp, h => by simpa only [Rep] using h
  | .sub id off n, v, hp, h => by simpa only [Rep] using h
theorem Reps.plain : ∀ (xs : List A) (vs : List Value), A.Plains xs → Reps m S w xs vs → Reps m S' w' xs vs
  | [], vs, hp, h => by simpa only [Reps] using h
  | x :: xs, vs, hp, h => by
    simp only [Reps] at h ⊢
    obtain ⟨v, r, h1, h2, h3⟩ := h
    exact ⟨v, r, h1, Rep.plain x v hp.1 h2, Reps.plain xs r hp.2 h3⟩
end
theorem BlkOK.plain {id : Nat} {b : Blk} (hp : b.Plain) (hS : ∀ b, S' b → S b) (h : BlkOK m S w id b) : BlkOK m S' w id b := by
  cases b with
  | unborn => exact h
  | gone => exact h
  | box xs =>
    obtain ⟨b, cells, T, h1, h2, h3, h4, h5⟩ := h
    exact ⟨b, cells, T, h1, h2, Reps.plain xs _ hp h3, h4, fun h => h5 (hS _ h)⟩
  | arr e sz n xs =>
    obtain ⟨v, h1, ⟨cells, h2, h3, h4⟩, h5⟩ := h
    exact ⟨v, h1, ⟨cells, h2, ⟨h3.1, fun i x u hx hu => RepD.plain (hp x (List.mem_of_getElem? hx)) (h3.2 i x u hx hu)⟩, h4⟩, fun g hg h => h5 g hg (hS _ h)⟩
  | fro e sz n xs => exact hp.elim
end

/-- What stands behind a call that has written the blocks 'ids'. -/
theorem merge {cx : Cx} {m : Mp} {S : Nat → Prop} {w : World} {H : List Blk} (h : Hold cx m S w H) {pids nids vids : List Nat} {pre post post' : List Blk} (hn : (pids ++ nids).Nodup) (hpre : renH pids pre H)
    (hpost : (pids ++ nids).length = post.length ∧ ∀ (j : Nat) (b : Blk), post[j]? = some b → ∃ b', post'[j]? = some b' ∧ b.ren (pids ++ nids) = some b')
    (hnf : ∀ b ∈ post, b.notFro = true) (hnew : ∀ id ∈ nids, H.getD id .unborn = .unborn) (hdis : ∀ id ∈ vids, id ∉ pids ++ nids) {m1 : Mp} {S1 : Nat → Prop} {w' : World}
    (h1 : Hold ⟨w, SV' m S vids, P0of (via pids m) (SV' m S vids), via pids m⟩ m1 S1 w' post) :
    ∃ m2, via (pids ++ nids) m2 = m1 ∧ Le m m2 ∧ Keeps S w w' ∧ (∀ k, k ∉ pids ++ nids → m2 k = m k) ∧ (∀ id p g, id ∉ pids ++ nids → id ∉ vids → m id = some p → p.blk = some g → w'.heap[g]? = w.heap[g]? ∧ (S1 g → S g)) ∧
      (∀ b, Vof m vids b → w'.heap[b]? = w.heap[b]? ∧ S1 b) ∧
      ∀ (S2 : Nat → Prop) (H2 : List Blk), (∀ b, S b → S2 b) → (∀ b, S2 b → S1 b) → (∀ j k, (pids ++ nids)[j]? = some k → BlkOK m1 S2 w' j (post.getD j .unborn) ∧ H2[k]?.getD .unborn = (post'[j]?).getD .unborn) →
        (∀ k ∈ vids, BlkOK m2 S2 w' k (H2.getD k .unborn)) → (∀ k, k ∉ pids ++ nids → k ∉ vids → H2.getD k .unborn = H.getD k .unborn) → Hold cx m2 S2 w' H2 := by
  have hkeep : ∀ b, b < w.heap.size → ¬ P0of (via pids m) (SV' m S vids) b → w'.heap[b]? = w.heap[b]? := h1.old
  have notP0S : ∀ b, SV' m S vids b → ¬ P0of (via pids m) (SV' m S vids) b := fun b hb ⟨_, _, _, _, hnb⟩ => hnb hb
  have hK : Keeps S w w' := fun b hb => hkeep b (h.s b hb).2 (notP0S b (.inl hb))
  have hVk : ∀ b, Vof m vids b → w'.heap[b]? = w.heap[b]? ∧ S1 b := fun b hb => by
    obtain ⟨id, p, h2, h3, h4⟩ := hb
    exact ⟨hkeep b (h.pl id p b h3 h4).2 (notP0S b (.inr ⟨id, p, h2, h3, h4⟩)), h1.s0 b (.inr ⟨id, p, h2, h3, h4⟩)⟩
  have hvia : via (pids ++ nids) (fun k => match posOf (pids ++ nids) k with | some j => m1 j | none => m k) = m1 := by
    funext j
    unfold via
    rcases Nat.lt_or_ge j (pids ++ nids).length with hj | hj
    · rw [List.getElem?_eq_getElem hj, Option.bind_some, posOf_of hn (List.getElem?_eq_getElem hj)]
    · rw [List.getElem?_eq_none hj]
      have := h1.ok j
      rw [getD_none (by rw [← hpost.1]; exact hj)] at this
      exact this.symm
  have pget : ∀ j, j < pids.length → (pids ++ nids)[j]? = pids[j]? := fun j hj => List.getElem?_append_left hj
  have hLe : Le m (fun k => match posOf (pids ++ nids) k with | some j => m1 j | none => m k) := by
    intro id p hp
    cases hpos : posOf (pids ++ nids) id with
    | none => simp only [hpos]; exact .inl hp
    | some j =>
      simp only [hpos]
      have hj := posOf_get hpos
      have hjp : j < pids.length := by
        rcases Nat.lt_or_ge j pids.length with hj' | hj'
        · exact hj'
        · rw [List.getElem?_append_right hj'] at hj
          have := h.ok id
          rw [hnew id (List.mem_of_getElem? hj)] at this
          simp only [BlkOK] at this; rw [this] at hp; cases hp
      rw [pget j hjp] at hj
      exact h1.le j p (by simp only [via, hj, Option.bind_some]; exact hp)
  have hother : ∀ k, k ∉ pids ++ nids → (fun k => match posOf (pids ++ nids) k with | some j => m1 j | none => m k) k = m k := fun k hk => by
    cases hpos : posOf (pids ++ nids) k with
    | none => simp only [hpos]
    | some j => exact absurd (List.mem_of_getElem? (posOf_get hpos)) hk
  have P0k : ∀ b, P0of (via pids m) (SV' m S vids) b → ∃ k p, k ∈ pids ∧ m k = some p ∧ p.blk = some b := fun b ⟨j, p, h2, h3, _⟩ => by
    obtain ⟨k, h4, h5⟩ := via_some h2
    exact ⟨k, p, List.mem_of_getElem? h4, h5, h3⟩
  have hfree : ∀ id p g, id ∉ pids ++ nids → id ∉ vids → m id = some p → p.blk = some g → w'.heap[g]? = w.heap[g]? ∧ (S1 g → S g) := by
    intro id p g h2 h3 h4 h5
    have hnP : ¬ P0of (via pids m) (SV' m S vids) g := fun hP => by
      obtain ⟨k, q, h6, h7, h8⟩ := P0k g hP
      exact h.apart k id q p g (fun e => h2 (by rw [← e]; simp [h6])) h7 h4 h8 h5
    refine ⟨hkeep g (h.pl id p g h4 h5).2 hnP, fun hS1 => ?_⟩
    rcases (h1.s g hS1).1 with (h6 | ⟨k, q, h6, h7, h8⟩) | h6 | h6
    · exact h6
    · exact absurd h5 (h.apart k id q p g (fun e => h3 (e ▸ h6)) h7 h4 h8)
    · exact absurd h6 hnP
    · have := (h.pl id p g h4 h5).2
      simp only at h6; omega
  refine ⟨_, hvia, hLe, hK, hother, hfree, hVk, fun S2 H2 hS hS' hids hv ho => ?_⟩
  have inOut : ∀ b, (cx.S0 b ∨ cx.P0 b ∨ cx.w0.heap.size ≤ b) ∨ (∃ k p, m k = some p ∧ p.blk = some b) ∨ w.heap.size ≤ b → cx.S0 b ∨ cx.P0 b ∨ cx.w0.heap.size ≤ b := by
    rintro b (hb | ⟨k, p, h2, h3⟩ | hb)
    · exact hb
    · rcases (h.pl k p b h2 h3).1 with h4 | h4 | h4
      · exact .inr (.inl h4)
      · exact .inl h4
      · exact .inr (.inr h4)
    · have := h.size; exact .inr (.inr (by omega))
  have s1 : ∀ b, S1 b → cx.S0 b ∨ cx.P0 b ∨ cx.w0.heap.size ≤ b := fun b hb => by
    rcases (h1.s b hb).1 with (h6 | ⟨k, q, h6, h7, h8⟩) | h6 | h6
    · exact (h.s b h6).1
    · exact inOut b (.inr (.inl ⟨k, q, h7, h8⟩))
    · obtain ⟨k, q, _, h7, h8⟩ := P0k b h6
      exact inOut b (.inr (.inl ⟨k, q, h7, h8⟩))
    · exact inOut b (.inr (.inr h6))
  have oldm : ∀ {id p g}, m1 id = some p → p.blk = some g → (cx.S0 g ∨ cx.P0 g ∨ cx.w0.heap.size ≤ g) ∧ g < w'.heap.size := fun {id p g} h2 h3 => by
    have h4 := h1.pl id p g h2 h3
    refine ⟨?_, h4.2⟩
    rcases h4.1 with h6 | h6 | h6
    · obtain ⟨k, q, _, h7, h8⟩ := P0k g h6
      exact inOut g (.inr (.inl ⟨k, q, h7, h8⟩))
    · exact s1 g (h1.s0 g h6)
    · exact inOut g (.inr (.inr h6))
  -- a block that the call has written lies apart from every other
  have mixed : ∀ k j p p' b, k ∉ pids ++ nids → m k = some p → m1 j = some p' → p.blk = some b → p'.blk ≠ some b := by
    intro k j p p' b hk hp hp' hb hb'
    have hlt := (h.pl k p b hp hb).2
    have hjl : j < post.length := by
      rcases Nat.lt_or_ge j post.length with hj | hj
      · exact hj
      · have := h1.ok j; rw [getD_none hj] at this; simp only [BlkOK] at this; rw [this] at hp'; cases hp'
    have hok := h1.ok j
    have hmem : post.getD j .unborn ∈ post := List.mem_of_getElem? (getD_some hjl)
    have hnfj := hnf _ hmem
    have hnS : ¬ S1 b := by
      cases hpj : post.getD j .unborn with
      | unborn => rw [hpj] at hok; simp only [BlkOK] at hok; rw [hok] at hp'; cases hp'
      | gone => rw [hpj] at hok; simp only [BlkOK] at hok; rw [hok] at hp'; cases hp'; cases hb'
      | box xs =>
        rw [hpj] at hok
        obtain ⟨b0, cells, T, h2, _, _, _, h3⟩ := hok
        rw [h2] at hp'; cases hp'; cases hb'; exact h3
      | arr e sz n xs =>
        rw [hpj] at hok
        obtain ⟨v, h2, _, h3⟩ := hok
        rw [h2] at hp'; cases hp'; exact h3 b hb'
      | fro e sz n xs => rw [hpj] at hnfj; cases hnfj
    rcases (h1.pl j p' b hp' hb').1 with h6 | h6 | h6
    · obtain ⟨k', q, h7, h8, h9⟩ := P0k b h6
      exact h.apart k' k q p b (fun e => hk (by rw [← e]; simp [h7])) h8 hp h9 hb
    · exact hnS (h1.s0 b h6)
    · simp only at h6; omega
  refine ⟨h1.os.trans h.os, h1.tape.trans h.tape, h1.output.trans h.output, Nat.le_trans h.size h1.size, fun b hb hP => ?_, fun b hb => hS b (h.s0 b hb), fun b hb => ⟨s1 b (hS' b hb), (h1.s b (hS' b hb)).2⟩, fun id p b hp hb => ?_, fun id id' p p' b hne hp hp' hb => ?_, fun k => ?_, h.le.trans hLe⟩
  · rw [hkeep b (Nat.lt_of_lt_of_le hb h.size) (fun hP' => ?_), h.old b hb hP]
    obtain ⟨j, p, h2, h3, h4⟩ := hP'
    obtain ⟨k, _, h5⟩ := via_some h2
    rcases (h.pl k p b h5 h3).1 with h6 | h6 | h6
    · exact hP h6
    · exact h4 (.inl (h.s0 b h6))
    · omega
  · cases hpos : posOf (pids ++ nids) id with
    | none => rw [hpos] at hp; exact ⟨inOr (h.pl id p b hp hb).1, Nat.lt_of_lt_of_le (h.pl id p b hp hb).2 h1.size⟩
    | some j =>
      rw [hpos] at hp
      obtain ⟨h2, h3⟩ := oldm hp hb
      exact ⟨inOr' h2, h3⟩
  · cases hpos : posOf (pids ++ nids) id with
    | none =>
      rw [hpos] at hp
      cases hpos' : posOf (pids ++ nids) id' with
      | none => rw [hpos'] at hp'; exact h.apart id id' p p' b hne hp hp' hb
      | some j' => rw [hpos'] at hp'; exact mixed id j' p p' b (posOf_none hpos) hp hp' hb
    | some j =>
      rw [hpos] at hp
      cases hpos' : posOf (pids ++ nids) id' with
      | none => rw [hpos'] at hp'; exact fun hb' => mixed id' j p' p b (posOf_none hpos') hp' hp hb' hb
      | some j' =>
        rw [hpos'] at hp'
        refine h1.apart j j' p p' b (fun e => hne ?_) hp hp' hb
        subst e
        have h2 := posOf_get hpos; rw [posOf_get hpos'] at h2
        exact (Option.some.inj h2).symm
  · by_cases hk : k ∈ pids ++ nids
    · obtain ⟨j, hj⟩ := List.getElem?_of_mem hk
      obtain ⟨h2, h3⟩ := hids j k hj
      rw [← hvia] at h2
      have hjl : j < post.length := by rw [← hpost.1]; exact (List.getElem?_eq_some_iff.1 hj).1
      obtain ⟨b', h4, h5⟩ := hpost.2 j _ (getD_some hjl)
      rw [List.getD_eq_getElem?_getD, h3, h4, Option.getD_some]
      exact (BlkOK.via hj h5).1 h2
    · by_cases hkv : k ∈ vids
      · exact hv k hkv
      · rw [ho k hk hkv]
        exact (h.ok k).mono (hother k hk) hLe hS hK fun p g hp hg => ⟨(hfree k p g hk hkv hp hg).1, fun h2 => (hfree k p g hk hkv hp hg).2 (hS' g h2)⟩
where
  inOr {A B C : Prop} (h : A ∨ B ∨ C) : A ∨ B ∨ C := h
  inOr' {A B C : Prop} (h : B ∨ A ∨ C) : A ∨ B ∨ C := by
    rcases h with h | h | h
    · exact .inr (.inl h)
    · exact .inl h
    · exact .inr (.inr h)
end Go.Proofs.Ytdpmojhejidhiaa.K
