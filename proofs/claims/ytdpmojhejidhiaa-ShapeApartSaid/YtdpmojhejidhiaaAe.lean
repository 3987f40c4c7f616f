/- A contract serves at a call. -/
import Derived.Test.YtdpmojhejidhiaaAd
namespace Go.Proofs.Ytdpmojhejidhiaa.K
open Go.RowKit
set_option linter.unusedVariables false
set_option linter.unusedSimpArgs false

def toDs : List A → Option (List D)
  | [] => some []
  | .d x :: xs => match toDs xs with | some ys => some (x.nn :: ys) | none => none
  | _ :: _ => none
def inB (ids : List Nat) (k : Nat) : Bool := ids.any (Nat.beq k)
theorem inB_iff {ids : List Nat} {k : Nat} : inB ids k = true ↔ k ∈ ids := by
  simp only [inB, List.any_eq_true]
  exact ⟨fun ⟨x, h1, h2⟩ => by rw [Nat.eq_of_beq_eq_true h2]; exact h1, fun h => ⟨k, h, Nat.beq_refl k⟩⟩
mutual
/-- A value as another call sees it, that may only read the blocks 'vids'. -/
def A.view (H : List Blk) (vids : List Nat) : A → A
  | .own id => match inB vids id, H.getD id .unborn with
    | true, .arr _ _ n xs => .d (.sl n xs)
    | true, .fro _ _ n xs => .d (.sl n xs)
    | _, _ => .own id
  | .sub id off n => match inB vids id, H.getD id .unborn with
    | true, .arr _ sz _ xs => (match Nat.ble (off + n * sz) xs.length with | true => .d (.sl n ((xs.drop off).take (n * sz))) | false => .sub id off n)
    | true, .fro _ sz _ xs => (match Nat.ble (off + n * sz) xs.length with | true => .d (.sl n ((xs.drop off).take (n * sz))) | false => .sub id off n)
    | _, _ => .sub id off n
  | .loc id off => match inB vids id, H.getD id .unborn with
    | true, .box xs => (match toDs xs with | some ds => .d (.ref (ds.drop off)) | none => .loc id off)
    | _, _ => .loc id off
  | .agg xs => .agg (A.views H vids xs)
  | .tup xs => .tup (A.views H vids xs)
  | .clo fn f c => .clo fn (A.views H vids f) (A.views H vids c)
  | .ab p => .ab p
  | .top => .top
  | .d x => .d x
def A.views (H : List Blk) (vids : List Nat) : List A → List A
  | [] => []
  | x :: xs => A.view H vids x :: A.views H vids xs
end
section
variable {S S' : Nat → Prop} {w : World}
theorem cell_at {b i : Nat} {cur : Array Value} {e : TypeId} {fr : Nat × Nat} (h : w.heap[b]? = some (.cells cur e fr)) : w.cell? ⟨b, i, none⟩ = cur[i]? := by simp [World.cell?, h]
theorem RowOK.reads {e sz n : Nat} {xs : List D} {v : Value} (h : RowOK S w e sz n xs v) (hS : ∀ b, S b → S' b) {g : Nat} (hg : v.ownBlock = some g) (hg' : S' g) : RepDs S' w xs (some ⟨g, 0, none⟩) 0 := by
  obtain ⟨cells, ho, hr, h1⟩ := h
  refine RepDs.of _ _ _ fun j c hj => ?_
  have hjl : j < xs.length := (List.getElem?_eq_some_iff.1 hj).1
  have hu : cells[j]? = some (cells[j]'(by rw [hr.1]; exact hjl)) := List.getElem?_eq_getElem _
  obtain ⟨hl, ⟨rfl, _⟩ | ⟨g', cap, cur, rfl, _, hh, hn, hm, hs, ht⟩⟩ := ho
  · simp [Value.ownBlock] at hg
  · simp only [Value.ownBlock, Option.some.injEq] at hg
    subst hg
    refine ⟨⟨g', 0, none⟩, _, rfl, ?_, hg', h1 _ (List.mem_of_getElem? hu), RepD.mono hS (Keeps.refl S w) _ _ (hr.2 j c _ hj hu)⟩
    rw [addr_add, hh.cell, ← Array.getElem?_toList]
    have : (cur.toList.take (n * sz))[j]? = some (cells[j]'(by rw [hr.1]; exact hjl)) := by rw [ht]; exact hu
    rw [List.getElem?_take] at this
    split at this
    · simpa using this
    · cases this
theorem RowOK.repD {e sz n : Nat} {xs : List D} {v : Value} (h : RowOK S w e sz n xs v) (hS : ∀ b, S b → S' b) (hg : ∀ g, v.ownBlock = some g → S' g) : RepD S' w (.sl n xs) v := by
  have h' := h
  obtain ⟨cells, ho, hr, h1⟩ := h
  simp only [RepD]
  have ho' := ho
  obtain ⟨hl, ⟨rfl, rfl⟩ | ⟨g', cap, cur, rfl, _, hh, hn, hm, hs, ht⟩⟩ := ho
  · have : xs = [] := List.eq_nil_of_length_eq_zero (by rw [← hr.1, hl]; simp)
    subst this
    exact ⟨none, 0, rfl, Nat.le_refl _, by simp [maxLen], fun _ => ⟨rfl, rfl⟩, by simp only [RepDs]⟩
  · exact ⟨some ⟨g', 0, none⟩, cap, rfl, hn, hm, (fun h => by cases h), h'.reads hS rfl (hg g' rfl)⟩
theorem RowOK.sub {e sz n off k : Nat} {xs : List D} {v : Value} (h : RowOK S w e sz n xs v) (hS : ∀ b, S b → S' b) {g cap : Nat} (hg : v.ownBlock = some g) (hg' : S' g) (hk : off + k * sz ≤ xs.length) (hc : k ≤ cap) (hm : cap ≤ maxLen) :
    RepD S' w (.sl k ((xs.drop off).take (k * sz))) (.slice (some ⟨g, off, none⟩) k cap) := by
  simp only [RepD]
  refine ⟨_, cap, rfl, hc, hm, (fun h => by cases h), ?_⟩
  have := (h.reads hS hg hg').drop off
  rw [addr_add, Nat.zero_add] at this
  exact this.take _
theorem toDs_reps {m : Mp} : ∀ {xs : List A} {ds : List D} {vs : List Value}, toDs xs = some ds → Reps m S w xs vs → RepsD S w ds vs
  | [], ds, vs, h, hr => by
    simp only [toDs, Option.some.injEq] at h; subst h
    simp only [Reps] at hr; subst hr
    exact ⟨rfl, fun i x v hx => by simp at hx⟩
  | .d x :: xs, ds, vs, h, hr => by
    simp only [toDs] at h
    cases ht : toDs xs with
    | none => rw [ht] at h; cases h
    | some ys =>
      rw [ht] at h; simp only [Option.some.injEq] at h; subst h
      simp only [Reps] at hr
      obtain ⟨v, r, rfl, h1, h2⟩ := hr
      have ih := toDs_reps ht h2
      refine ⟨by simp [ih.1], fun i y u hy hu => ?_⟩
      cases i with
      | zero => simp only [List.getElem?_cons_zero, Option.some.injEq] at hy hu; subst hy; subst hu; simp only [Rep] at h1; exact h1.nn
      | succ i => exact ih.2 i y u (by simpa using hy) (by simpa using hu)
  | .top :: xs, ds, vs, h, hr => by simp [toDs] at h
  | .agg _ :: xs, ds, vs, h, hr => by simp [toDs] at h
  | .tup _ :: xs, ds, vs, h, hr => by simp [toDs] at h
  | .loc _ _ :: xs, ds, vs, h, hr => by simp [toDs] at h
  | .own _ :: xs, ds, vs, h, hr => by simp [toDs] at h
  | .sub _ _ _ :: xs, ds, vs, h, hr => by simp [toDs] at h
  | .clo _ _ _ :: xs, ds, vs, h, hr => by simp [toDs] at h
  | .ab _ :: xs, ds, vs, h, hr => by simp [toDs] at h
end
/-- The blocks that are only to be read. -/
def Vof (m : Mp) (vids : List Nat) : Nat → Prop := fun b => ∃ id p, id ∈ vids ∧ m id = some p ∧ p.blk = some b
section
variable {cx : Cx} {m : Mp} {S : Nat → Prop} {w : World} {H : List Blk} {vids : List Nat}
abbrev SV' (m : Mp) (S : Nat → Prop) (vids : List Nat) : Nat → Prop := fun b => S b ∨ Vof m vids b
mutual
theorem Rep.view (h : Hold cx m S w H) : ∀ (x : A) (v : Value), Rep m S w x v → Rep m (SV' m S vids) w (x.view H vids) v
  | .top, v, hr => by simp only [A.view, Rep]
  | .ab p, v, hr => by simp only [A.view]; exact Rep.mono (Le.refl m) (fun _ h => .inl h) (Keeps.refl S w) _ _ hr
  | .d x, v, hr => by simp only [A.view]; exact Rep.mono (Le.refl m) (fun _ h => .inl h) (Keeps.refl S w) _ _ hr
  | .agg xs, v, hr => by
    simp only [A.view, Rep] at hr ⊢
    obtain ⟨vs, h1, h2⟩ := hr
    exact ⟨vs, h1, Reps.view h xs _ h2⟩
  | .tup xs, v, hr => by
    simp only [A.view, Rep] at hr ⊢
    obtain ⟨vs, h1, h2⟩ := hr
    exact ⟨vs, h1, Reps.view h xs _ h2⟩
  | .clo fn f c, v, hr => by
    simp only [A.view, Rep] at hr ⊢
    obtain ⟨vs, cs, h1, h2, h3⟩ := hr
    exact ⟨vs, cs, h1, Reps.view h f _ h2, Reps.view h c _ h3⟩
  | .loc id off, v, hr => by
    have base : Rep m (SV' m S vids) w (.loc id off) v := Rep.mono (Le.refl m) (fun _ h => .inl h) (Keeps.refl S w) _ _ hr
    simp only [A.view]
    split
    · rename_i xs hi hb
      split
      · rename_i ds hds
        have hok := h.ok id
        rw [hb] at hok
        obtain ⟨b, cells, T, h1, h2, h3, h4, h5⟩ := hok
        simp only [Rep, h1] at hr
        subst hr
        simp only [Rep, RepD]
        refine ⟨_, rfl, ?_⟩
        have hrd := toDs_reps hds h3
        have := RepDs.drop (S := SV' m S vids) (w := w) (cs := ds) (p := ⟨b, 0, none⟩) (RepDs.of _ _ _ fun j c hj => ?_) off
        · rw [addr_add, Nat.zero_add] at this; exact this
        · have hjl : j < ds.length := (List.getElem?_eq_some_iff.1 hj).1
          have hu : cells.toList[j]? = some (cells.toList[j]'(by rw [hrd.1]; exact hjl)) := List.getElem?_eq_getElem _
          refine ⟨_, _, rfl, ?_, .inr ⟨id, _, inB_iff.1 hi, h1, rfl⟩, h4 _ (List.mem_of_getElem? hu), RepD.mono (fun _ h => .inl h) (Keeps.refl S w) _ _ (hrd.2 j c _ hj hu)⟩
          rw [addr_add, cell_at h2, ← Array.getElem?_toList]
          simp
      · exact base
    · exact base
  | .own id, v, hr => by
    have base : Rep m (SV' m S vids) w (.own id) v := Rep.mono (Le.refl m) (fun _ h => .inl h) (Keeps.refl S w) _ _ hr
    simp only [A.view]
    split
    · rename_i e sz n xs hi hb
      have hok := h.ok id
      rw [hb] at hok
      obtain ⟨v', h1, h2, h3⟩ := hok
      simp only [Rep, h1] at hr
      obtain ⟨rfl, _⟩ := hr
      simp only [Rep]
      exact h2.repD (fun _ h => .inl h) fun g hg => .inr ⟨id, _, inB_iff.1 hi, h1, hg⟩
    · rename_i e sz n xs hi hb
      have hok := h.ok id
      rw [hb] at hok
      obtain ⟨v', h1, h2, h3⟩ := hok
      simp only [Rep, h1] at hr
      obtain ⟨rfl, _⟩ := hr
      simp only [Rep]
      exact h2.repD (fun _ h => .inl h) fun g hg => .inr ⟨id, _, inB_iff.1 hi, h1, hg⟩
    · exact base
  | .sub id off n, v, hr => by
    have base : Rep m (SV' m S vids) w (.sub id off n) v := Rep.mono (Le.refl m) (fun _ h => .inl h) (Keeps.refl S w) _ _ hr
    simp only [A.view]
    split
    · rename_i e sz n' xs hi hb
      have hok := h.ok id
      rw [hb] at hok
      obtain ⟨v', h1, h2, h3⟩ := hok
      simp only [Rep, h1] at hr
      obtain ⟨g, cap, hg, rfl, hc, hm⟩ := hr
      split
      · rename_i hle
        simp only [Rep]
        exact h2.sub (fun _ h => .inl h) hg (.inr ⟨id, _, inB_iff.1 hi, h1, hg⟩) (by simpa [Nat.ble_eq] using hle) hc hm
      · exact base
    · rename_i e sz n' xs hi hb
      have hok := h.ok id
      rw [hb] at hok
      obtain ⟨v', h1, h2, h3⟩ := hok
      simp only [Rep, h1] at hr
      obtain ⟨g, cap, hg, rfl, hc, hm⟩ := hr
      split
      · rename_i hle
        simp only [Rep]
        exact h2.sub (fun _ h => .inl h) hg (.inr ⟨id, _, inB_iff.1 hi, h1, hg⟩) (by simpa [Nat.ble_eq] using hle) hc hm
      · exact base
    · exact base
theorem Reps.view (h : Hold cx m S w H) : ∀ (xs : List A) (vs : List Value), Reps m S w xs vs → Reps m (SV' m S vids) w (A.views H vids xs) vs
  | [], vs, hr => by simpa only [A.views, Reps] using hr
  | x :: xs, vs, hr => by
    simp only [A.views, Reps] at hr ⊢
    obtain ⟨v, r, h1, h2, h3⟩ := hr
    exact ⟨v, r, h1, Rep.view h x v h2, Reps.view h xs r h3⟩
end
end
/-- A block that nobody touches. -/
theorem BlkOK.mono {m m' : Mp} {S S' : Nat → Prop} {w w' : World} {id : Nat} {b : Blk} (h : BlkOK m S w id b) (hid : m' id = m id) (hm : Le m m') (hS : ∀ b, S b → S' b) (hk : Keeps S w w')
    (hb : ∀ p g, m id = some p → p.blk = some g → w'.heap[g]? = w.heap[g]? ∧ (S' g → S g)) : BlkOK m' S' w' id b := by
  have row : ∀ {e sz n : Nat} {xs : List D} {v : Value}, m id = some (.arr v) → RowOK S w e sz n xs v → RowOK S' w' e sz n xs v := by
    rintro e sz n xs v hv ⟨cells, ⟨h0, h1⟩, h2, h3⟩
    refine ⟨cells, ⟨h0, ?_⟩, h2.mono hS hk, h3⟩
    rcases h1 with h1 | ⟨g, cap, cur, rfl, h4, h5, h6⟩
    · exact .inl h1
    · exact .inr ⟨g, cap, cur, rfl, h4, h5.heap (hb _ g hv rfl).1, h6⟩
  cases b with
  | unborn => exact hid.trans h
  | gone => exact hid.trans h
  | box xs =>
    obtain ⟨b, cells, T, h1, h2, h3, h4, h5⟩ := h
    exact ⟨b, cells, T, hid.trans h1, by rw [(hb _ b h1 rfl).1]; exact h2, Reps.mono hm hS hk _ _ h3, h4, fun h => h5 ((hb _ b h1 rfl).2 h)⟩
  | arr e sz n xs =>
    obtain ⟨v, h1, h2, h3⟩ := h
    exact ⟨v, hid.trans h1, row h1 h2, fun g hg h => h3 g hg ((hb _ g h1 hg).2 h)⟩
  | fro e sz n xs =>
    obtain ⟨v, h1, h2, h3⟩ := h
    exact ⟨v, hid.trans h1, row h1 h2, fun g hg => hS _ (h3 g hg)⟩
end Go.Proofs.Ytdpmojhejidhiaa.K
