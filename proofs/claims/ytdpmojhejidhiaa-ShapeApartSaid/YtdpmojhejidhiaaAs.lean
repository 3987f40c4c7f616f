/- From the form's reading of data to what the walks are told: any data of numbers, bools, texts, slices, structs and arrays. -/
import Derived.Test.YtdpmojhejidhiaaAr
import Derived.ProofKit
import Derived.OpenShut
import Derived.ShutString
import Derived.ChangeOld
import Derived.Carry
import Derived.DataElems
namespace Go.Proofs.Ytdpmojhejidhiaa.K
open Go.ChangeShapes Go.WideShapes Go.ChangeAt Go.RowKit
set_option linter.unusedVariables false
set_option linter.unusedSimpArgs false

/-- These cells are data of this type. -/
inductive TD (P : Program) : TypeId → List D → Prop
  | bool {t : TypeId} (h : P.underlying t = some .bool) (b : Bool) : TD P t [.lit (.bool b)]
  | int {t : TypeId} {k : IntKind} (h : P.underlying t = some (.int k)) (n : Int) (hw : (Lit.int k n).wf = true) : TD P t [.lit (.int k n)]
  | str {t : TypeId} (h : P.underlying t = some .string) (s : ByteArray) (hs : s.size ≤ maxLen) : TD P t [.lit (.string s)]
  | slice {t e : TypeId} (h : P.underlying t = some (.slice e)) (rows : List (List D)) (hn : rows.length ≤ maxLen) (hr : ∀ r ∈ rows, TD P e r) : TD P t [.sl rows.length rows.flatten]
  | struct {t : TypeId} {fs : Array Field} (h : P.underlying t = some (.struct fs)) (parts : List (List D)) (hl : parts.length = fs.toList.length) (hp : ∀ (i : Nat) (f : Field) (p : List D), fs.toList[i]? = some f → parts[i]? = some p → TD P f.type p) : TD P t parts.flatten
  | array {t : TypeId} {n : Nat} {e : TypeId} (h : P.underlying t = some (.array n e)) (parts : List (List D)) (hl : parts.length = n) (hp : ∀ p ∈ parts, TD P e p) : TD P t parts.flatten
def tightF (P : Program) : Nat → List Field → Option Nat
  | off, [] => some off
  | off, f :: fs => match decide (f.offset = off) with | true => tightF P (off + P.cellsOf f.type) fs | false => none
def plainT (P : Program) : Nat → TypeId → Bool
  | 0, _ => false
  | d + 1, t => match P.underlying t with
    | some .bool | some (.int _) | some .string => true
    | some (.slice e) => plainT P d e
    | some (.struct fs) => fs.toList.all (fun f => plainT P d f.type) && decide (tightF P 0 fs.toList = some (P.cellsOf t))
    | some (.array n e) => plainT P d e && decide (P.cellsOf t = n * P.cellsOf e)
    | _ => false
section
variable {S : Nat → Prop} {w : World}
theorem repsD_one {x : D} {v : Value} (h : RepD S w x v) : RepsD S w [x] [v] := ⟨rfl, fun i a b ha hb => by
  match i with
  | 0 => simp only [List.getElem?_cons_zero, Option.some.injEq] at ha hb; subst ha; subst hb; exact h
  | i + 1 => simp at ha⟩
theorem repsD_nil : RepsD S w [] [] := ⟨rfl, fun i a b ha => by simp at ha⟩
theorem repsD_app {xs ys : List D} {vs us : List Value} (h : RepsD S w xs vs) (k : RepsD S w ys us) : RepsD S w (xs ++ ys) (vs ++ us) := by
  refine ⟨by rw [List.length_append, List.length_append, h.1, k.1], fun i x u hx hu => ?_⟩
  rw [List.getElem?_append] at hx hu
  rw [h.1] at hu
  split at hx
  · rename_i hi; rw [if_pos hi] at hu; exact h.2 i x u hx hu
  · rename_i hi; rw [if_neg hi] at hu; exact k.2 _ x u hx hu
theorem reps_of_repsD {m : Mp} : ∀ {xs : List D} {vs : List Value}, RepsD S w xs vs → Reps m S w (xs.map A.d) vs
  | [], vs, h => by simp only [List.map_nil, Reps]; exact List.length_eq_zero_iff.1 h.1
  | x :: xs, [], h => by have := h.1; simp at this
  | x :: xs, v :: vs, h => by
    simp only [List.map_cons, Reps]
    exact ⟨v, vs, rfl, by simp only [Rep]; exact h.2 0 x v rfl rfl, reps_of_repsD ⟨by have := h.1; simpa using this, fun i a b ha hb => h.2 (i + 1) a b (by simpa using ha) (by simpa using hb)⟩⟩
end
theorem flat_uniform {α : Type} {k : Nat} : ∀ {rows : List (List α)}, (∀ r ∈ rows, r.length = k) → ∀ {j : Nat} {c : α}, rows.flatten[j]? = some c → ∃ (i r : Nat) (row : List α), rows[i]? = some row ∧ row[r]? = some c ∧ r < k ∧ j = i * k + r
  | [], _, j, c, h => by simp at h
  | row :: rows, hk, j, c, h => by
    rw [List.flatten_cons, List.getElem?_append] at h
    have hl := hk row (by simp)
    split at h
    · next hj => exact ⟨0, j, row, rfl, h, by omega, by omega⟩
    · next hj =>
      obtain ⟨i, r, row', h1, h2, h3, h4⟩ := flat_uniform (fun r hr => hk r (by simp [hr])) h
      refine ⟨i + 1, r, row', by simpa using h1, h2, h3, ?_⟩
      rw [Nat.add_mul]; omega
theorem cells_each {w : World} {a : Addr} {n : Nat} {cs : List Value} (h : w.cells? 0 a n = some cs) : cs.length = n ∧ ∀ i u, cs[i]? = some u → w.cell? (a.add i) = some u := by
  unfold World.cells? at h
  rw [if_pos (Nat.zero_le _)] at h
  have hl := mapM_some_length h
  rw [List.length_range] at hl
  refine ⟨hl, fun i u hu => ?_⟩
  have hi : i < n := by rw [← hl]; exact (List.getElem?_eq_some_iff.1 hu).1
  have := mapM_some_get h i i (by simp [hi])
  rw [this]; exact hu
section
variable {H : Type} {enc : TypeId × Value → H} {P : Program} {W : World}
/-- What is opened at one place. -/
def Opened (P : Program) (W : World) (t : TypeId) (cs : List Value) : Prop := ∃ ds, TD P t ds ∧ RepsD (fun b => b < W.heap.size) W ds cs ∧ ∀ c ∈ cs, c.oneCell' = true
theorem parts_array {e : TypeId} {k : Nat} {cs : List Value} : ∀ (m i : Nat), (∀ j, i ≤ j → j < i + m → Opened P W e ((cs.drop (j * k)).take k)) → cs.length = (i + m) * k →
    ∃ parts : List (List D), parts.length = m ∧ (∀ p ∈ parts, TD P e p) ∧ RepsD (fun b => b < W.heap.size) W parts.flatten (cs.drop (i * k)) ∧ ∀ c ∈ cs.drop (i * k), c.oneCell' = true
  | 0, i, _, hl => ⟨[], rfl, by simp, by rw [List.drop_of_length_le (by rw [hl]; simp)]; exact repsD_nil, by rw [List.drop_of_length_le (by rw [hl]; simp)]; simp⟩
  | m + 1, i, h, hl => by
    obtain ⟨ds, h1, h2, h3⟩ := h i (Nat.le_refl _) (by omega)
    obtain ⟨parts, q1, q2, q3, q4⟩ := parts_array m (i + 1) (fun j hj hj2 => h j (by omega) (by omega)) (by rw [hl]; congr 1; omega)
    have e1 : cs.drop (i * k) = (cs.drop (i * k)).take k ++ cs.drop ((i + 1) * k) := by
      rw [show (i + 1) * k = i * k + k by rw [Nat.add_mul]; omega, ← List.drop_drop, List.take_append_drop]
    refine ⟨ds :: parts, by simp [q1], fun p hp => ?_, ?_, fun c hc => ?_⟩
    · rcases List.mem_cons.1 hp with rfl | hp
      · exact h1
      · exact q2 p hp
    · rw [e1, List.flatten_cons]; exact repsD_app h2 q3
    · rw [e1] at hc
      rcases List.mem_append.1 hc with hc | hc
      · exact h3 c hc
      · exact q4 c hc
theorem parts_struct {cs : List Value} : ∀ (fs : List Field) (off : Nat), tightF P off fs = some cs.length → (∀ f ∈ fs, Opened P W f.type ((cs.drop f.offset).take (P.cellsOf f.type))) →
    ∃ parts : List (List D), parts.length = fs.length ∧ (∀ (i : Nat) (f : Field) (p : List D), fs[i]? = some f → parts[i]? = some p → TD P f.type p) ∧ RepsD (fun b => b < W.heap.size) W parts.flatten (cs.drop off) ∧ ∀ c ∈ cs.drop off, c.oneCell' = true
  | [], off, ht, _ => by
    unfold tightF at ht; cases ht
    exact ⟨[], rfl, fun i f p h => by simp at h, by rw [List.drop_length]; exact repsD_nil, by rw [List.drop_length]; simp⟩
  | f :: fs, off, ht, h => by
    unfold tightF at ht
    split at ht
    · next ho =>
      have ho := of_decide_eq_true ho
      obtain ⟨ds, h1, h2, h3⟩ := h f (by simp)
      obtain ⟨parts, q1, q2, q3, q4⟩ := parts_struct fs _ ht fun g hg => h g (by simp [hg])
      rw [ho] at h2 h3
      have e1 : cs.drop off = (cs.drop off).take (P.cellsOf f.type) ++ cs.drop (off + P.cellsOf f.type) := by rw [← List.drop_drop, List.take_append_drop]
      refine ⟨ds :: parts, by simp [q1], fun i g p hg hp => ?_, ?_, fun c hc => ?_⟩
      · match i with
        | 0 => simp only [List.getElem?_cons_zero, Option.some.injEq] at hg hp; subst hg; subst hp; exact h1
        | i + 1 => exact q2 i g p (by simpa using hg) (by simpa using hp)
      · rw [e1, List.flatten_cons]; exact repsD_app h2 q3
      · rw [e1] at hc
        rcases List.mem_append.1 hc with hc | hc
        · exact h3 c hc
        · exact q4 c hc
    · cases ht
theorem td_open : ∀ (d : Nat) {t : TypeId}, plainT P d t = true → ∀ {fuel : Nat} {cs : List Value} {x : DataW H × List MemPlace}, DataW.trod enc P W 0 (fun _ => true) true fuel t cs = some x → Opened P W t cs
  | 0, t, hp, _, _, _, _ => by cases hp
  | d + 1, t, hp, fuel, cs, x, h => by
    unfold plainT at hp
    split at hp
    · next hu => obtain ⟨b, rfl, _⟩ := DataW.trod_bool hu h; exact ⟨_, .bool hu b, repsD_one (by unfold RepD; exact ⟨rfl, rfl⟩), fun c hc => by simp at hc; subst hc; rfl⟩
    · next k hu => obtain ⟨n, rfl, _, hw⟩ := DataW.trod_int hu h; exact ⟨_, .int hu n hw, repsD_one (by unfold RepD; exact ⟨rfl, rfl⟩), fun c hc => by simp at hc; subst hc; rfl⟩
    · next hu => obtain ⟨s, rfl, _, hs⟩ := DataW.trod_string hu h; exact ⟨_, .str hu s hs, repsD_one (by unfold RepD; exact ⟨rfl, rfl⟩), fun c hc => by simp at hc; subst hc; rfl⟩
    · next e hu =>
      rcases DataW.trod_slice hu h with ⟨rfl, _⟩ | ⟨a, len, cap, elems, rest, n, _, rfl, _, _, hl, hm, hlen, hel, _, _⟩
      · exact ⟨_, .slice hu [] (by simp) (by simp), repsD_one (by unfold RepD; exact ⟨none, 0, rfl, Nat.le_refl _, Nat.zero_le _, fun _ => ⟨rfl, rfl⟩, by simp only [List.flatten_nil, RepDs]⟩), fun c hc => by simp at hc; subst hc; rfl⟩
      · have each : ∀ i : Nat, ∃ r : List D, i < len → TD P e r ∧ r.length = P.cellsOf e ∧ ∀ j y, r[j]? = some y → ∃ u, W.cell? (a.add (i * P.cellsOf e + j)) = some u ∧ u.oneCell' = true ∧ RepD (fun b => b < W.heap.size) W y u := by
          intro i
          by_cases hi : i < len
          · have h1 := hel i hi
            rw [List.getElem?_eq_getElem (by omega), Option.bind_eq_some_iff] at h1
            obtain ⟨ci, hci, hti⟩ := h1
            obtain ⟨ds, k1, k2, k3⟩ := td_open d hp hti
            obtain ⟨c1, c2⟩ := cells_each hci
            refine ⟨ds, fun _ => ⟨k1, by rw [← k2.1, c1], fun j y hy => ?_⟩⟩
            have hj : j < ci.length := by rw [k2.1]; exact (List.getElem?_eq_some_iff.1 hy).1
            have h5 := c2 j _ (List.getElem?_eq_getElem hj)
            rw [Addr.add_add] at h5
            exact ⟨_, h5, k3 _ (List.getElem_mem hj), k2.2 j y _ hy (List.getElem?_eq_getElem hj)⟩
          · exact ⟨[], fun hh => absurd hh hi⟩
        obtain ⟨g, hg⟩ := Classical.axiomOfChoice each
        have hrl : ((List.range len).map g).length = len := by simp
        have hmem : ∀ r ∈ (List.range len).map g, ∃ i, i < len ∧ g i = r := fun r hr => by
          obtain ⟨i, hi, rfl⟩ := List.mem_map.1 hr
          exact ⟨i, List.mem_range.1 hi, rfl⟩
        have ht := TD.slice hu ((List.range len).map g) (by rw [hrl]; omega) fun r hr => by
          obtain ⟨i, hi, rfl⟩ := hmem r hr
          exact (hg i hi).1
        rw [hrl] at ht
        refine ⟨_, ht, repsD_one ?_, fun c hc => by simp at hc; subst hc; rfl⟩
        unfold RepD
        refine ⟨some a, cap, rfl, hl, hm, fun hh => (by cases hh), RepDs.of _ _ _ fun j c hc => ?_⟩
        obtain ⟨i, r, row, h1, h2, h3, rfl⟩ := flat_uniform (k := P.cellsOf e) (fun r hr => by obtain ⟨i, hi, rfl⟩ := hmem r hr; exact (hg i hi).2.1) hc
        have hi : i < len := by have := (List.getElem?_eq_some_iff.1 h1).1; rw [hrl] at this; exact this
        rw [List.getElem?_map, List.getElem?_range hi] at h1
        cases h1
        obtain ⟨u, h5, h6, h7⟩ := (hg i hi).2.2 r c h2
        refine ⟨a, u, rfl, by rw [Nat.zero_add]; exact h5, ?_, h6, h7⟩
        have := World.block_lt_of_cell? W _ h5
        rw [add_block] at this; exact this
    · next fs hu =>
      rw [Bool.and_eq_true, List.all_eq_true] at hp
      obtain ⟨xs, n, rfl, rfl, hl, hlen, hf⟩ := DataW.trod_struct hu h
      have ht := of_decide_eq_true hp.2
      rw [← hl] at ht
      obtain ⟨parts, q1, q2, q3, q4⟩ := parts_struct (W := W) (cs := cs) fs.toList 0 ht fun f hm => by
        obtain ⟨i, hi⟩ := List.getElem?_of_mem hm
        have h1 := hf i f (by simpa using hi)
        have hlt : i < xs.length := by rw [hlen]; have := (List.getElem?_eq_some_iff.1 hi).1; simpa using this
        rw [List.getElem?_eq_getElem hlt] at h1
        exact td_open d (hp.1 f hm) h1
      exact ⟨_, .struct hu parts q1 q2, q3, q4⟩
    · next n e hu =>
      rw [Bool.and_eq_true] at hp
      obtain ⟨xs, m, rfl, rfl, hl, hlen, hf⟩ := DataW.trod_array hu h
      obtain ⟨parts, q1, q2, q3, q4⟩ := parts_array (P := P) (W := W) (e := e) (k := P.cellsOf e) (cs := cs) n 0 (fun j _ hj => by
        have h1 := hf j (by omega)
        rw [List.getElem?_eq_getElem (by omega)] at h1
        exact td_open d hp.1 h1) (by rw [hl, of_decide_eq_true hp.2, Nat.zero_add])
      rw [Nat.zero_mul, List.drop_zero] at q3 q4
      exact ⟨_, .array hu parts q1 q2, q3, q4⟩
    · cases hp
theorem flat_map {α : Type} {f : α → D} (l : List α) : flatD (fun n => [f n]) l = l.map f := by
  induction l with
  | nil => rfl
  | cons x l ih => rw [List.map_cons, ← ih]; rfl
/-- Nil slices are read as slices of no elements. -/
theorem Weak.nnS {st : St} : Weak st ⟨A.nns st.env, st.H, st.k⟩ := fun cx m S a w hs => ⟨m, S, hs.hold, Reps.nn _ _ hs.env, hs.df, hs.pre⟩
theorem reps_nil {m : Mp} {S : Nat → Prop} {w : World} : Reps m S w [] [] := by simp only [Reps]
theorem reps_cons {m : Mp} {S : Nat → Prop} {w : World} {a : A} {as' : List A} {v : Value} {r : List Value} (h : Rep m S w a v) (k : Reps m S w as' r) : Reps m S w (a :: as') (v :: r) := by simp only [Reps]; exact ⟨v, r, rfl, h, k⟩
theorem rep_agg {m : Mp} {S : Nat → Prop} {w : World} {as' : List A} {cs : Array Value} (h : Reps m S w as' cs.toList) : Rep m S w (.agg as') (.agg cs) := by simp only [Rep]; exact ⟨cs, rfl, h⟩
theorem rep_d {m : Mp} {S : Nat → Prop} {w : World} {x : D} {v : Value} (h : RepD S w x v) : Rep m S w (.d x) v := by simp only [Rep]; exact h
theorem rep_lit {m : Mp} {S : Nat → Prop} {w : World} {v : Value} (h : v.oneCell' = true) : Rep m S w (.d (.lit v)) v := rep_d (by unfold RepD; exact ⟨rfl, h⟩)
/-- A value of one cell; of several. -/
theorem open_one {t : TypeId} {v : Value} {dd : DataW H} {ps : List MemPlace} {base : Nat} {r : Reach} (d : Nat) (hp : plainT P d t = true) (hs : scalarT P t = true) (hv : Value.okWide P W r base t v) (h : DataW.Trod enc P W 0 (fun _ => true) true t v dd ps) : ∃ x, TD P t [x] ∧ RepD (fun b => b < W.heap.size) W x v := by
  obtain ⟨fuel, hf⟩ := h
  obtain ⟨ds, h1, h2, h3⟩ := td_open d hp hf
  cases v with
  | agg cs =>
    exfalso
    have : Cell.okWide P W r base t (.agg cs) := by
      unfold Value.okWide at hv
      unfold scalarT at hs
      split at hv
      · next hu => rw [hu] at hs; cases hs
      · next hu => rw [hu] at hs; cases hs
      · exact hv
    unfold Cell.okWide at this
    unfold scalarT at hs
    split at this <;> simp_all [Cell.ok]
  | _ =>
    simp only [Value.cells] at h2
    match ds, h2 with
    | [x], h2 => exact ⟨x, h1, h2.2 0 x _ rfl rfl⟩
theorem open_agg {t : TypeId} {v : Value} {dd : DataW H} {ps : List MemPlace} {base : Nat} {r : Reach} (d : Nat) (hp : plainT P d t = true) (hs : (aggSize P t).isSome = true) (hv : Value.okWide P W r base t v) (h : DataW.Trod enc P W 0 (fun _ => true) true t v dd ps) : ∃ ds cs, v = .agg cs ∧ TD P t ds ∧ RepsD (fun b => b < W.heap.size) W ds cs.toList := by
  obtain ⟨fuel, hf⟩ := h
  obtain ⟨ds, h1, h2, h3⟩ := td_open d hp hf
  have : ∃ cs, v = .agg cs := by
    unfold Value.okWide at hv
    unfold aggSize at hs
    split at hv
    · exact ⟨_, hv.choose_spec.1⟩
    · exact ⟨_, hv.choose_spec.1⟩
    · exfalso
      split at hs <;> simp_all
  obtain ⟨cs, rfl⟩ := this
  exact ⟨ds, cs, rfl, h1, h2⟩
end
section
variable {P : Program} {t : TypeId} {ds : List D}
theorem TD.of_int {k : IntKind} (hu : P.underlying t = some (.int k)) (h : TD P t ds) : ∃ n, ds = [.lit (.int k n)] ∧ (Lit.int k n).wf = true := by
  cases h with
  | int h n hw => rw [hu] at h; cases h; exact ⟨n, rfl, hw⟩
  | _ h => rw [hu] at h; cases h
theorem TD.of_bool (hu : P.underlying t = some .bool) (h : TD P t ds) : ∃ b, ds = [.lit (.bool b)] := by
  cases h with
  | bool h b => exact ⟨b, rfl⟩
  | _ h => rw [hu] at h; cases h
theorem TD.of_str (hu : P.underlying t = some .string) (h : TD P t ds) : ∃ s, ds = [.lit (.string s)] ∧ s.size ≤ maxLen := by
  cases h with
  | str h s hs => exact ⟨s, rfl, hs⟩
  | _ h => rw [hu] at h; cases h
theorem rows_enc {α : Type} {enc : α → List D} {Q : α → Prop} : ∀ {rows : List (List D)}, (∀ r ∈ rows, ∃ x, r = enc x ∧ Q x) → ∃ l : List α, rows = l.map enc ∧ ∀ x ∈ l, Q x
  | [], _ => ⟨[], rfl, by simp⟩
  | r :: rows, h => by
    obtain ⟨x, rfl, hx⟩ := h r (by simp)
    obtain ⟨l, rfl, hl⟩ := rows_enc (rows := rows) fun r hr => h r (List.mem_cons_of_mem _ hr)
    refine ⟨x :: l, rfl, fun y hy => ?_⟩
    rcases List.mem_cons.1 hy with rfl | hy
    · exact hx
    · exact hl y hy
theorem TD.of_slice {α : Type} {enc : α → List D} {Q : α → Prop} {e : TypeId} (hu : P.underlying t = some (.slice e)) (he : ∀ {r}, TD P e r → ∃ x, r = enc x ∧ Q x) (h : TD P t ds) : ∃ l : List α, ds = [.sl l.length (flatD enc l)] ∧ l.length ≤ maxLen ∧ ∀ x ∈ l, Q x := by
  cases h with
  | slice h rows hn hr =>
    rw [hu] at h; cases h
    obtain ⟨l, rfl, hl⟩ := rows_enc fun r hm => he (hr r hm)
    exact ⟨l, by rw [List.length_map, ← List.flatMap_def]; rfl, by simpa using hn, hl⟩
  | _ h => rw [hu] at h; cases h
def TDs (P : Program) : List Field → List D → Prop
  | [], ds => ds = []
  | f :: fs, ds => ∃ p q, ds = p ++ q ∧ TD P f.type p ∧ TDs P fs q
theorem tds_of : ∀ {fs : List Field} {parts : List (List D)}, parts.length = fs.length → (∀ (i : Nat) (f : Field) (p : List D), fs[i]? = some f → parts[i]? = some p → TD P f.type p) → TDs P fs parts.flatten
  | [], [], _, _ => rfl
  | f :: fs, p :: parts, hl, h => ⟨p, parts.flatten, rfl, h 0 f p rfl rfl, tds_of (by simpa using hl) fun i g q hg hq => h (i + 1) g q (by simpa using hg) (by simpa using hq)⟩
theorem TD.of_struct {fs : Array Field} (hu : P.underlying t = some (.struct fs)) (h : TD P t ds) : TDs P fs.toList ds := by
  cases h with
  | struct h parts hl hp => rw [hu] at h; cases h; exact tds_of hl hp
  | _ h => rw [hu] at h; cases h
theorem TD.of_array {α : Type} {enc : α → List D} {Q : α → Prop} {n : Nat} {e : TypeId} (hu : P.underlying t = some (.array n e)) (he : ∀ {r}, TD P e r → ∃ x, r = enc x ∧ Q x) (h : TD P t ds) : ∃ l : List α, ds = flatD enc l ∧ l.length = n ∧ ∀ x ∈ l, Q x := by
  cases h with
  | array h parts hl hr =>
    rw [hu] at h; cases h
    obtain ⟨l, rfl, hq⟩ := rows_enc fun r hm => he (hr r hm)
    exact ⟨l, by rw [← List.flatMap_def]; rfl, by simpa using hl, hq⟩
  | _ h => rw [hu] at h; cases h
end
end Go.Proofs.Ytdpmojhejidhiaa.K
