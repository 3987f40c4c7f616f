/- Merged: Pprs Pprt Ppri. -/
import Derived.Test.YtdpmojhejidhiaaMpb
namespace Go.Proofs.Ytdpmojhejidhiaa.K
open Go.RowKit Go.Lib
set_option linter.unusedVariables false
set_option linter.unusedSimpArgs false
inductive RT where
  | leaf (w : List UInt8)
  | un (a : RT)
  | bin (w : List UInt8) (a b : RT)
def leafc (c : UInt8) : Bool := decide (c ≠ 32) && decide (c ≠ 41) && decide (c ≠ 93) && decide (c ≠ 40)
def scanQ : List UInt8 → List UInt8 × List UInt8
  | [] => ([], [])
  | [c] => ([c], [])
  | c :: d :: r => if c = 39 then (if d = 39 then (39 :: 39 :: (scanQ r).1, (scanQ r).2) else ([39], d :: r)) else (c :: (scanQ (d :: r)).1, (scanQ (d :: r)).2)
def pLeaf : List UInt8 → List UInt8 × List UInt8
  | [] => ([], [])
  | c :: r => if c = 39 then (39 :: (scanQ r).1, (scanQ r).2) else ((c :: r).takeWhile leafc, (c :: r).dropWhile leafc)
/-- What follows a leaf. -/
def stL (x : List UInt8) : Prop := ∀ c r, x = c :: r → leafc c = false
theorem span_leaf {w x : List UInt8} (h : ∀ c ∈ w, leafc c = true) (hx : stL x) : (w ++ x).takeWhile leafc = w ∧ (w ++ x).dropWhile leafc = x := by
  induction w with
  | nil =>
    cases x with
    | nil => exact ⟨rfl, rfl⟩
    | cons c r => have := hx c r rfl; simp [this]
  | cons c w ih =>
    have := h c (by simp)
    have := ih fun d hd => h d (by simp [hd])
    simp [h c (by simp), this]
theorem leaf_word {w x : List UInt8} (h : ∀ c ∈ w, leafc c = true ∧ c ≠ 39) (hw : w ≠ []) (hx : stL x) : pLeaf (w ++ x) = (w, x) := by
  cases w with
  | nil => exact absurd rfl hw
  | cons c w =>
    have := span_leaf (fun d hd => (h d hd).1) hx
    show (if c = 39 then _ else (((c :: w) ++ x).takeWhile leafc, ((c :: w) ++ x).dropWhile leafc)) = _
    rw [if_neg (h c (by simp)).2, this.1, this.2]
theorem hexC_ne (n : Nat) (h : n < 16) : B.hexC n ≠ 39 := by
  have : ∀ n : Fin 16, B.hexC n.1 ≠ 39 := by decide
  exact this ⟨n, h⟩
theorem scan_one {c d : UInt8} {r : List UInt8} (h : c ≠ 39) : scanQ (c :: d :: r) = (c :: (scanQ (d :: r)).1, (scanQ (d :: r)).2) := by rw [scanQ, if_neg h]
theorem scan_ok (x : List UInt8) (hx : stL x) : ∀ (l : List UInt8), scanQ ((l.flatMap B.escC ++ [39]) ++ x) = (l.flatMap B.escC ++ [39], x)
  | [] => by
    cases x with
    | nil => rfl
    | cons d r =>
      have : d ≠ 39 := fun e => by have := hx d r rfl; rw [e] at this; revert this; decide
      show scanQ (39 :: d :: r) = _
      rw [scanQ, if_pos rfl, if_neg this]; rfl
  | c :: l => by
    have ih := scan_ok x hx l
    obtain ⟨e, R, hR⟩ : ∃ e R, (l.flatMap B.escC ++ [39]) ++ x = e :: R := by
      cases h : l.flatMap B.escC with
      | nil => exact ⟨39, x, rfl⟩
      | cons e r => exact ⟨e, r ++ [39] ++ x, rfl⟩
    rw [List.flatMap_cons, List.append_assoc, List.append_assoc, ← List.append_assoc (l.flatMap B.escC), hR]
    rw [hR] at ih
    have hc := c.toNat_lt
    unfold B.escC
    by_cases h1 : c.toNat = 39
    · rw [if_pos h1]
      show scanQ (39 :: 39 :: e :: R) = _
      rw [scanQ, if_pos rfl, if_pos rfl, ih]; rfl
    · rw [if_neg h1]
      by_cases h2 : c.toNat < 32 ∨ 126 < c.toNat ∨ c.toNat = 92
      · rw [if_pos h2]
        show scanQ (92 :: B.hexC (c.toNat / 16) :: B.hexC (c.toNat % 16) :: e :: R) = _
        rw [scan_one (by decide), scan_one (hexC_ne _ (by omega)), scan_one (hexC_ne _ (by omega)), ih]; rfl
      · rw [if_neg h2]
        show scanQ (c :: e :: R) = _
        rw [scan_one (fun e => h1 (by rw [e]; rfl)), ih]; rfl
theorem leaf_text {l x : List UInt8} (hx : stL x) : pLeaf (textS l ++ x) = (textS l, x) := by
  unfold textS
  rw [List.cons_append, pLeaf, if_pos rfl, scan_ok x hx]
/-! ### leaves' texts -/
theorem tailc_leafc {c : UInt8} (h : tailc c = true) : leafc c = true ∧ c ≠ 39 := by
  have : ∀ n : Fin 256, tailc (UInt8.ofNat n.1) = true → leafc (UInt8.ofNat n.1) = true ∧ UInt8.ofNat n.1 ≠ 39 := by decide +kernel
  have := this ⟨c.toNat, c.toNat_lt⟩
  simpa using this (by simpa using h)
theorem lett_tailc {c : UInt8} (h : lett c = true) : tailc c = true := by unfold tailc; rw [h]; rfl
theorem name_all {s : List UInt8} (h : nameB s = true) : s ≠ [] ∧ (∀ c ∈ s, tailc c = true) ∧ resv s = false := by
  cases s with
  | nil => cases h
  | cons c t =>
    rw [nameB_cons] at h
    simp only [Bool.and_eq_true, Bool.not_eq_true', List.all_eq_true] at h
    refine ⟨by simp, fun d hd => ?_, h.1.1.2⟩
    rcases List.mem_cons.1 hd with rfl | hd
    · exact lett_tailc h.1.2
    · exact h.2 d hd
theorem dec_all : ∀ (u : Nat), ∀ c ∈ dec u, leafc c = true ∧ c ≠ 39 := by
  intro u
  induction u using Nat.strongRecOn with
  | ind u ih =>
    have hd : ∀ d, d < 10 → leafc (UInt8.ofNat (48 + d)) = true ∧ UInt8.ofNat (48 + d) ≠ 39 := by
      have : ∀ d : Fin 10, leafc (UInt8.ofNat (48 + d.1)) = true ∧ UInt8.ofNat (48 + d.1) ≠ 39 := by decide
      exact fun d h => this ⟨d, h⟩
    intro c hc
    by_cases h : u < 10
    · rw [dec_lt h, List.mem_singleton] at hc; subst hc; exact hd u h
    · rw [dec_ge h] at hc
      rcases List.mem_append.1 hc with hc | hc
      · exact ih (u / 10) (by omega) c hc
      · rw [List.mem_singleton] at hc; subst hc; exact hd _ (by omega)
theorem dec_ne (u : Nat) : dec u ≠ [] := by
  by_cases h : u < 10
  · rw [dec_lt h]; simp
  · rw [dec_ge h]; simp
theorem hexs_all : ∀ (k u : Nat), ∀ c ∈ hexs k u, leafc c = true ∧ c ≠ 39
  | 0, u, c, h => by cases h
  | k + 1, u, c, h => by
    have hd : ∀ d, d < 16 → leafc (B.hexC d) = true ∧ B.hexC d ≠ 39 := by
      have : ∀ d : Fin 16, leafc (B.hexC d.1) = true ∧ B.hexC d.1 ≠ 39 := by decide
      exact fun d h => this ⟨d, h⟩
    rcases List.mem_append.1 h with h | h
    · exact hexs_all k _ c h
    · rw [List.mem_singleton] at h; subst h; exact hd _ (by omega)
theorem lit_leaf {v : GValue} (hv : chkV v = 0) {x : List UInt8} (hx : stL x) : pLeaf (litS v ++ x) = (litS v, x) := by
  unfold litS
  rw [if_neg (by simp [hv])]
  by_cases h1 : v.Kind.toNat = 1
  · rw [if_pos h1]
    refine leaf_word (fun c hc => ?_) ?_ hx
    · unfold decS at hc
      split at hc
      · rcases List.mem_cons.1 hc with rfl | hc
        · decide
        · exact dec_all _ c hc
      · exact dec_all _ c hc
    · unfold decS
      split
      · simp
      · exact dec_ne _
  rw [if_neg h1]
  by_cases h2 : v.Kind.toNat = 2
  · rw [if_pos h2]
    split
    · exact leaf_word (w := [102, 97, 108, 115, 101]) (by decide) (by simp) hx
    · exact leaf_word (w := [116, 114, 117, 101]) (by decide) (by simp) hx
  rw [if_neg h2]
  by_cases h3 : v.Kind.toNat = 3
  · rw [if_pos h3]
    refine leaf_word (w := 35 :: hexs 16 v.Bits.toNat) (fun c hc => ?_) (by simp) hx
    rcases List.mem_cons.1 hc with rfl | hc
    · decide
    · exact hexs_all _ _ c hc
  · rw [if_neg h3]; exact leaf_text hx
/-- A leaf's text. -/
def lefT (n : GNode_) : List UInt8 := if nK n = 7 then n.Name else if nK n = 8 then n.Var ++ [46] ++ n.Name else litS n.Val
theorem lk_of {n : GNode_} (h : ndE n = 0) : lk n = false ∧ mr n = false := by
  unfold ndE at h
  cases a : lk n <;> rw [a] at h
  · cases b : mr n <;> rw [b] at h
    · exact ⟨rfl, rfl⟩
    · simp at h
  · simp at h
theorem lefT_ok {n : GNode_} (hk : nK n = 7 ∨ nK n = 8 ∨ nK n = 9) (h : ndE n = 0) {x : List UInt8} (hx : stL x) : pLeaf (lefT n ++ x) = (lefT n, x) := by
  have hl := (lk_of h).1
  unfold lk at hl
  unfold lefT
  rcases hk with k | k | k <;> rw [k] at hl ⊢
  · have hl : nameB n.Name = true := by simpa using hl
    have := name_all hl
    exact leaf_word (fun c hc => tailc_leafc (this.2.1 c hc)) this.1 hx
  · have hl : nameB n.Name = true ∧ nameB n.Var = true := by simpa [and_comm] using hl
    have a := name_all hl.1
    have b := name_all hl.2
    refine leaf_word (w := n.Var ++ [46] ++ n.Name) (fun c hc => ?_) (by simp) hx
    rcases List.mem_append.1 hc with hc | hc
    · rcases List.mem_append.1 hc with hc | hc
      · exact tailc_leafc (b.2.1 c hc)
      · rw [List.mem_singleton] at hc; subst hc; decide
    · exact tailc_leafc (a.2.1 c hc)
  · have hl : chkV n.Val = 0 := by simpa using hl
    exact lit_leaf hl hx
/-! ### the reader -/
def vLoop : Nat → RT → List UInt8 → RT × List UInt8
  | 0, a, s => (a, s)
  | fu + 1, a, s => match s with
    | 32 :: 43 :: 32 :: r => vLoop fu (.bin [43] a (.leaf (pLeaf r).1)) (pLeaf r).2
    | 32 :: 45 :: 32 :: r => vLoop fu (.bin [45] a (.leaf (pLeaf r).1)) (pLeaf r).2
    | s => (a, s)
def pVal (s : List UInt8) : RT × List UInt8 := vLoop 100 (.leaf (pLeaf s).1) (pLeaf s).2
def nosp (c : UInt8) : Bool := decide (c ≠ 32)
def pCmp (s : List UInt8) : RT × List UInt8 :=
  let a := pVal s
  let b := pVal (((a.2.drop 1).dropWhile nosp).drop 1)
  (.bin ((a.2.drop 1).takeWhile nosp) a.1 b.1, b.2)
def pPrim (O : List UInt8 → RT × List UInt8) : Nat → List UInt8 → RT × List UInt8
  | 0, s => (.leaf [], s)
  | fu + 1, s => match s with
    | 40 :: r => ((O r).1, (O r).2.drop 1)
    | 110 :: 111 :: 116 :: 32 :: r => (.un (pPrim O fu r).1, (pPrim O fu r).2)
    | s => pCmp s
def aLoop (P : List UInt8 → RT × List UInt8) : Nat → RT → List UInt8 → RT × List UInt8
  | 0, a, s => (a, s)
  | fu + 1, a, s => match s with
    | 32 :: 97 :: 110 :: 100 :: 32 :: r => aLoop P fu (.bin [97, 110, 100] a (P r).1) (P r).2
    | s => (a, s)
def pAnd (P : List UInt8 → RT × List UInt8) (s : List UInt8) : RT × List UInt8 := aLoop P 100 (P s).1 (P s).2
def oLoop (P : List UInt8 → RT × List UInt8) : Nat → RT → List UInt8 → RT × List UInt8
  | 0, a, s => (a, s)
  | fu + 1, a, s => match s with
    | 32 :: 111 :: 114 :: 32 :: r => oLoop P fu (.bin [111, 114] a (pAnd P r).1) (pAnd P r).2
    | s => (a, s)
def pOr : Nat → List UInt8 → RT × List UInt8
  | 0, s => (.leaf [], s)
  | fu + 1, s => oLoop (pPrim (pOr fu) 100) 100 (pAnd (pPrim (pOr fu) 100) s).1 (pAnd (pPrim (pOr fu) 100) s).2
def PT.raw : PT → RT
  | .leaf n => .leaf (lefT n)
  | .one n a => .un a.raw
  | .two n a b => .bin (wrdS n) a.raw b.raw
/-- What follows a value, a comparison, an and-chain, a whole test. -/
def noSum (x : List UInt8) : Prop := (∀ r, x ≠ 32 :: 43 :: 32 :: r) ∧ (∀ r, x ≠ 32 :: 45 :: 32 :: r)
def noAnd (x : List UInt8) : Prop := ∀ r, x ≠ 32 :: 97 :: 110 :: 100 :: 32 :: r
def noOr (x : List UInt8) : Prop := ∀ r, x ≠ 32 :: 111 :: 114 :: 32 :: r
theorem vLoop_end {fu : Nat} {a : RT} {x : List UInt8} (h : noSum x) : vLoop (fu + 1) a x = (a, x) := by
  unfold vLoop
  split
  · rename_i r; exact absurd rfl (h.1 r)
  · rename_i r; exact absurd rfl (h.2 r)
  · rfl
theorem aLoop_end {P : List UInt8 → RT × List UInt8} {fu : Nat} {a : RT} {x : List UInt8} (h : noAnd x) : aLoop P (fu + 1) a x = (a, x) := by
  unfold aLoop
  split
  · rename_i r; exact absurd rfl (h r)
  · rfl
theorem oLoop_end {P : List UInt8 → RT × List UInt8} {fu : Nat} {a : RT} {x : List UInt8} (h : noOr x) : oLoop P (fu + 1) a x = (a, x) := by
  unfold oLoop
  split
  · rename_i r; exact absurd rfl (h r)
  · rfl
theorem str_leaf (n : GNode_) : (PT.leaf n).str = lefT n := rfl
theorem stL_sp (r : List UInt8) : stL (32 :: r) := fun c r' h => by cases h; decide
theorem stL_par (r : List UInt8) : stL (41 :: r) := fun c r' h => by cases h; decide
/-- Values. -/
theorem val_ok : ∀ {t : PT} {d wh : Nat} {x : List UInt8}, t.ok d wh → 1 ≤ wh → wh ≤ 2 → stL x → ∀ fu, t.flat.length ≤ fu → ∃ fu2, fu ≤ fu2 + t.flat.length ∧ vLoop fu (.leaf (pLeaf (t.str ++ x)).1) (pLeaf (t.str ++ x)).2 = vLoop fu2 t.raw x
  | t, 0, wh, x, h, _, _, _, _, _ => by cases t <;> exact h.elim
  | .leaf n, d + 1, wh, x, h, h1, h2, hx, fu, hf => by
    have hk := kids_no h.2.2 h.1
    rw [str_leaf, lefT_ok hk h.2.1 hx]
    exact ⟨fu, by omega, rfl⟩
  | .one n a, d + 1, wh, x, h, h1, h2, hx, fu, hf => by
    have hk := kids_one h.2.2.1
    have := h.1
    unfold mayN at this
    rw [if_neg (by omega)] at this
    split at this <;> (have := of_decide_eq_true this; omega)
  | .two n a b, d + 1, wh, x, h, h1, h2, hx, fu, hf => by
    have hk := kids_two h.2.2.1
    have hm := h.1
    unfold mayN at hm
    rw [if_neg (by omega)] at hm
    have hk5 : nK n = 5 ∨ nK n = 6 := by
      split at hm <;> (have := of_decide_eq_true hm; omega)
    have hw1 : wh = 1 := by
      split at hm
      · assumption
      · have := of_decide_eq_true hm; omega
    have ka : kidN (nK n) 0 = 1 := by unfold kidN; rcases hk5 with k | k <;> rw [k] <;> rfl
    have kb : kidN (nK n) 1 = 2 := by unfold kidN; rcases hk5 with k | k <;> rw [k] <;> rfl
    have ha := h.2.2.2.1
    have hb := h.2.2.2.2
    rw [ka] at ha
    rw [kb] at hb
    have hpos := a.flat_pos
    have hfl : (PT.two n a b).flat.length = a.flat.length + b.flat.length + 1 := by simp [PT.flat]
    have b0 : ∀ m : GNode_, decide (bndK m < 0) = false := fun m => decide_eq_false (by unfold bndK; split <;> (try split) <;> omega)
    -- the right one is a leaf
    have hbl : ∃ m, b = .leaf m ∧ ndE m = 0 ∧ (nK m = 7 ∨ nK m = 8 ∨ nK m = 9) := by
      cases d with
      | zero => cases b <;> exact hb.elim
      | succ d =>
        cases b with
        | leaf m => exact ⟨m, rfl, hb.2.1, kids_no hb.2.2 hb.1⟩
        | one m c =>
          have q := kids_one hb.2.2.1
          have := hb.1
          unfold mayN at this
          rw [if_neg (by omega), if_neg (by omega)] at this
          have := of_decide_eq_true this; omega
        | two m c e =>
          have q := kids_two hb.2.2.1
          have := hb.1
          unfold mayN at this
          rw [if_neg (by omega), if_neg (by omega)] at this
          have := of_decide_eq_true this; omega
    obtain ⟨m, rfl, hm1, hm2⟩ := hbl
    have hls := lefT_ok hm2 hm1 hx
    have key : ∀ w : UInt8, (w = 43 ∨ w = 45) → wrdS n = [w] → (PT.two n a (.leaf m)).str = a.str ++ ([32] ++ [w] ++ [32] ++ lefT m) → ∃ fu2, fu ≤ fu2 + (PT.two n a (.leaf m)).flat.length ∧ vLoop fu (.leaf (pLeaf ((PT.two n a (.leaf m)).str ++ x)).1) (pLeaf ((PT.two n a (.leaf m)).str ++ x)).2 = vLoop fu2 (PT.two n a (.leaf m)).raw x := fun w hw hwr hs => by
      rw [hs, List.append_assoc]
      obtain ⟨fu2, g1, g2⟩ := val_ok (t := a) (x := [32] ++ [w] ++ [32] ++ lefT m ++ x) ha (by omega) (by omega) (stL_sp _) fu (by omega)
      rw [g2]
      obtain ⟨fu3, rfl⟩ : ∃ fu3, fu2 = fu3 + 1 := ⟨fu2 - 1, by omega⟩
      refine ⟨fu3, by omega, ?_⟩
      show _ = vLoop fu3 (.bin (wrdS n) a.raw (.leaf (lefT m))) x
      rw [hwr]
      have e : ([32] ++ [w] ++ [32] ++ lefT m ++ x : List UInt8) = 32 :: w :: 32 :: (lefT m ++ x) := by simp
      rw [e]
      rcases hw with rfl | rfl
      · show vLoop fu3 (.bin [43] a.raw (.leaf (pLeaf (lefT m ++ x)).1)) (pLeaf (lefT m ++ x)).2 = _
        rw [hls]
      · show vLoop fu3 (.bin [45] a.raw (.leaf (pLeaf (lefT m ++ x)).1)) (pLeaf (lefT m ++ x)).2 = _
        rw [hls]
    have hs : ∀ w, wrdS n = [w] → (PT.two n a (.leaf m)).str = a.str ++ ([32] ++ [w] ++ [32] ++ lefT m) := fun w hw => by
      show par (decide (bndK a.nd < lefP n)) a.str ++ [32] ++ wrdS n ++ [32] ++ par (decide (bndK (PT.leaf m).nd < rigP n)) (PT.leaf m).str = _
      have : lefP n = 0 ∧ rigP n = 0 := by unfold lefP rigP; rcases hk5 with k | k <;> rw [k] <;> exact ⟨rfl, rfl⟩
      rw [this.1, this.2, b0, b0, hw, str_leaf]
      simp [par]
    rcases hk5 with k | k
    · have hw : wrdS n = [43] := by unfold wrdS; rw [k]; rfl
      exact key 43 (.inl rfl) hw (hs _ hw)
    · have hw : wrdS n = [45] := by unfold wrdS; rw [k]; rfl
      exact key 45 (.inr rfl) hw (hs _ hw)
theorem pVal_ok {t : PT} {d : Nat} {x : List UInt8} (h : t.ok d 1) (hl : t.flat.length ≤ 40) (hx : stL x) (hn : noSum x) : pVal (t.str ++ x) = (t.raw, x) := by
  obtain ⟨fu2, g1, g2⟩ := val_ok h (by omega) (by omega) hx 100 (by omega)
  unfold pVal
  rw [g2]
  obtain ⟨fu3, rfl⟩ : ∃ fu3, fu2 = fu3 + 1 := ⟨fu2 - 1, by omega⟩
  exact vLoop_end hn
end Go.Proofs.Ytdpmojhejidhiaa.K
namespace Go.Proofs.Ytdpmojhejidhiaa.K
open Go.RowKit Go.Lib
set_option linter.unusedVariables false
set_option linter.unusedSimpArgs false
theorem dec_dig : ∀ (u : Nat), ∀ c ∈ dec u, c ≠ 110 := by
  intro u
  induction u using Nat.strongRecOn with
  | ind u ih =>
    have hd : ∀ d, d < 10 → UInt8.ofNat (48 + d) ≠ 110 := by
      have : ∀ d : Fin 10, UInt8.ofNat (48 + d.1) ≠ 110 := by decide
      exact fun d h => this ⟨d, h⟩
    intro c hc
    by_cases h : u < 10
    · rw [dec_lt h, List.mem_singleton] at hc; subst hc; exact hd u h
    · rw [dec_ge h] at hc
      rcases List.mem_append.1 hc with hc | hc
      · exact ih (u / 10) (by omega) c hc
      · rw [List.mem_singleton] at hc; subst hc; exact hd _ (by omega)
theorem lit_not {v : GValue} (hv : chkV v = 0) : litS v ≠ [] ∧ litS v ≠ [110, 111, 116] := by
  unfold litS
  rw [if_neg (by simp [hv])]
  by_cases h1 : v.Kind.toNat = 1
  · rw [if_pos h1]
    unfold decS
    split
    · exact ⟨by simp, by simp⟩
    · exact ⟨dec_ne _, fun e => dec_dig v.N.toNat 110 (by rw [e]; simp) rfl⟩
  rw [if_neg h1]
  by_cases h2 : v.Kind.toNat = 2
  · rw [if_pos h2]
    split <;> exact ⟨by simp, by simp⟩
  rw [if_neg h2]
  by_cases h3 : v.Kind.toNat = 3
  · rw [if_pos h3]; exact ⟨by simp, by simp⟩
  · rw [if_neg h3]; unfold textS; exact ⟨by simp, by simp⟩
theorem lefT_not {n : GNode_} (hk : nK n = 7 ∨ nK n = 8 ∨ nK n = 9) (h : ndE n = 0) : lefT n ≠ [] ∧ lefT n ≠ [110, 111, 116] := by
  have hl := (lk_of h).1
  unfold lk at hl
  unfold lefT
  rcases hk with k | k | k <;> rw [k] at hl ⊢
  · have hl : nameB n.Name = true := by simpa using hl
    have := name_all hl
    refine ⟨this.1, fun e => ?_⟩
    have h2 := this.2.2
    have e' : n.Name = [110, 111, 116] := e
    rw [e'] at h2; revert h2; decide
  · refine ⟨by simp, fun e => ?_⟩
    have : (46 : UInt8) ∈ n.Var ++ [46] ++ n.Name := by simp
    have e' : n.Var ++ [46] ++ n.Name = [110, 111, 116] := e
    rw [e'] at this; revert this; decide
  · have hl : chkV n.Val = 0 := by simpa using hl
    exact lit_not hl
/-- A value's text begins with a leaf's. -/
theorem left_leaf : ∀ {t : PT} {d wh : Nat} {x : List UInt8}, t.ok d wh → 1 ≤ wh → stL x → ∃ m r, t.str ++ x = lefT m ++ r ∧ stL r ∧ (nK m = 7 ∨ nK m = 8 ∨ nK m = 9) ∧ ndE m = 0
  | t, 0, wh, x, h, _, _ => by cases t <;> exact h.elim
  | .leaf n, d + 1, wh, x, h, h1, hx => ⟨n, x, rfl, hx, kids_no h.2.2 h.1, h.2.1⟩
  | .one n a, d + 1, wh, x, h, h1, hx => by
    have hk := kids_one h.2.2.1
    have := h.1
    unfold mayN at this
    rw [if_neg (by omega)] at this
    split at this <;> (have := of_decide_eq_true this; omega)
  | .two n a b, d + 1, wh, x, h, h1, hx => by
    have hk := kids_two h.2.2.1
    have hm := h.1
    unfold mayN at hm
    rw [if_neg (by omega)] at hm
    have hk5 : nK n = 5 ∨ nK n = 6 := by
      split at hm <;> (have := of_decide_eq_true hm; omega)
    have ka : kidN (nK n) 0 = 1 := by unfold kidN; rcases hk5 with k | k <;> rw [k] <;> rfl
    have ha := h.2.2.2.1
    rw [ka] at ha
    have b0 : decide (bndK a.nd < lefP n) = false := by
      have : lefP n = 0 := by unfold lefP; rcases hk5 with k | k <;> rw [k] <;> rfl
      rw [this]; exact decide_eq_false (by unfold bndK; split <;> (try split) <;> omega)
    have e : (PT.two n a b).str ++ x = a.str ++ (32 :: (wrdS n ++ [32] ++ par (decide (bndK b.nd < rigP n)) b.str ++ x)) := by
      show (par (decide (bndK a.nd < lefP n)) a.str ++ [32] ++ wrdS n ++ [32] ++ par (decide (bndK b.nd < rigP n)) b.str) ++ x = _
      rw [b0]; simp [par]
    rw [e]
    exact left_leaf ha (by omega) (stL_sp _)
/-- So it begins neither with a bracket nor with not. -/
theorem val_head {t : PT} {d wh : Nat} {x : List UInt8} (h : t.ok d wh) (h1 : 1 ≤ wh) (hx : stL x) : (∀ r, t.str ++ x ≠ 40 :: r) ∧ (∀ r, t.str ++ x ≠ 110 :: 111 :: 116 :: 32 :: r) := by
  obtain ⟨m, r0, e, hr, hk, hn⟩ := left_leaf h h1 hx
  have hl := lefT_ok hk hn hr
  obtain ⟨n1, n2⟩ := lefT_not hk hn
  constructor
  · intro r e'
    rw [← e, e'] at hl
    have : pLeaf (40 :: r) = ([], 40 :: r) := by
      show (if (40 : UInt8) = 39 then (39 :: (scanQ r).1, (scanQ r).2) else ((40 :: r).takeWhile leafc, (40 :: r).dropWhile leafc)) = _
      rw [if_neg (by decide)]; rfl
    rw [this] at hl
    exact n1 (Prod.mk.inj hl).1.symm
  · intro r e'
    rw [← e, e'] at hl
    have : pLeaf (110 :: 111 :: 116 :: 32 :: r) = ([110, 111, 116], 32 :: r) := by
      show (if (110 : UInt8) = 39 then (39 :: (scanQ (111 :: 116 :: 32 :: r)).1, (scanQ (111 :: 116 :: 32 :: r)).2) else ((110 :: 111 :: 116 :: 32 :: r).takeWhile leafc, (110 :: 111 :: 116 :: 32 :: r).dropWhile leafc)) = _
      rw [if_neg (by decide)]; rfl
    rw [this] at hl
    exact n2 (Prod.mk.inj hl).1.symm
theorem sign_sp {o : UInt8} (h : ¬ (o.toNat < 1 ∨ 6 < o.toNat)) (x : List UInt8) : (signS o ++ 32 :: x).takeWhile nosp = signS o ∧ (signS o ++ 32 :: x).dropWhile nosp = 32 :: x ∧ ∃ c r, signS o = c :: r ∧ c ≠ 43 ∧ c ≠ 45 := by
  have hc : o.toNat = 1 ∨ o.toNat = 2 ∨ o.toNat = 3 ∨ o.toNat = 4 ∨ o.toNat = 5 ∨ o.toNat = 6 := by omega
  unfold signS
  rcases hc with h | h | h | h | h | h <;> rw [h] <;> exact ⟨rfl, rfl, _, _, rfl, by decide, by decide⟩
theorem cmp_ok {n : GNode_} {a b : PT} {d : Nat} {x : List UInt8} (hk : nK n = 4) (h : (PT.two n a b).ok d 0) (hl : (PT.two n a b).flat.length ≤ 40) (hx : stL x) (hn : noSum x) : pCmp ((PT.two n a b).str ++ x) = ((PT.two n a b).raw, x) ∧ (∀ r, (PT.two n a b).str ++ x ≠ 40 :: r) ∧ (∀ r, (PT.two n a b).str ++ x ≠ 110 :: 111 :: 116 :: 32 :: r) := by
  cases d with
  | zero => exact h.elim
  | succ d =>
  have ha := h.2.2.2.1
  have hb := h.2.2.2.2
  rw [show kidN (nK n) 0 = 1 by rw [hk]; rfl] at ha
  rw [show kidN (nK n) 1 = 1 by rw [hk]; rfl] at hb
  have hfl : (PT.two n a b).flat.length = a.flat.length + b.flat.length + 1 := by simp [PT.flat]
  have ho : ¬ (n.Op.toNat < 1 ∨ 6 < n.Op.toNat) := by
    have hl := (lk_of h.2.1).1
    unfold lk at hl
    rw [if_pos hk] at hl
    exact of_decide_eq_false hl
  have hw : wrdS n = signS n.Op := by unfold wrdS; rw [hk]; rfl
  have b0 : ∀ m : GNode_, decide (bndK m < 0) = false := fun m => decide_eq_false (by unfold bndK; split <;> (try split) <;> omega)
  have e : (PT.two n a b).str ++ x = a.str ++ (32 :: (signS n.Op ++ 32 :: (b.str ++ x))) := by
    show (par (decide (bndK a.nd < lefP n)) a.str ++ [32] ++ wrdS n ++ [32] ++ par (decide (bndK b.nd < rigP n)) b.str) ++ x = _
    rw [show lefP n = 0 by unfold lefP; rw [hk]; rfl, show rigP n = 0 by unfold rigP; rw [hk]; rfl, b0, b0, hw]
    simp [par]
  obtain ⟨s1, s2, c, r, s3, s4, s5⟩ := sign_sp ho (b.str ++ x)
  rw [e]
  refine ⟨?_, val_head ha (by omega) (stL_sp _)⟩
  have v1 := pVal_ok (x := 32 :: (signS n.Op ++ 32 :: (b.str ++ x))) ha (by omega) (stL_sp _) (by
    rw [s3]
    exact ⟨fun r' e' => s4 (List.cons.inj (List.cons.inj e').2).1, fun r' e' => s5 (List.cons.inj (List.cons.inj e').2).1⟩)
  have v2 := pVal_ok (x := x) hb (by omega) hx hn
  unfold pCmp
  simp only
  rw [v1]
  simp only
  rw [show (32 :: (signS n.Op ++ 32 :: (b.str ++ x))).drop 1 = signS n.Op ++ 32 :: (b.str ++ x) from rfl, s1, s2, show (32 :: (b.str ++ x)).drop 1 = b.str ++ x from rfl, v2, ← hw]
  rfl
theorem bnd_set (n : GNode_) : bndK n = 1 ∧ nK n = 2 ∨ bndK n = 2 ∧ nK n = 1 ∨ bndK n = 3 ∧ nK n ≠ 1 ∧ nK n ≠ 2 := by
  unfold bndK; split
  · exact .inl ⟨rfl, ‹_›⟩
  · split
    · exact .inr (.inl ⟨rfl, ‹_›⟩)
    · exact .inr (.inr ⟨rfl, by assumption, by assumption⟩)
/-- What the reader does with a truth's text. -/
structure RdT (t : PT) : Prop where
  A : bndK t.nd = 3 → ∀ fu k x, t.flat.length ≤ fu → t.flat.length ≤ k → stL x → noSum x → pPrim (pOr fu) k (t.str ++ x) = (t.raw, x)
  B : 2 ≤ bndK t.nd → ∀ fu x fu1, t.flat.length ≤ fu → t.flat.length ≤ fu1 → stL x → noSum x → ∃ fu2, fu1 ≤ fu2 + t.flat.length ∧ aLoop (pPrim (pOr fu) 100) fu1 (pPrim (pOr fu) 100 (t.str ++ x)).1 (pPrim (pOr fu) 100 (t.str ++ x)).2 = aLoop (pPrim (pOr fu) 100) fu2 t.raw x
  C : ∀ fu x fu1, t.flat.length ≤ fu → t.flat.length ≤ fu1 → stL x → noSum x → noAnd x → ∃ fu2, fu1 ≤ fu2 + t.flat.length ∧ oLoop (pPrim (pOr fu) 100) fu1 (pAnd (pPrim (pOr fu) 100) (t.str ++ x)).1 (pAnd (pPrim (pOr fu) 100) (t.str ++ x)).2 = oLoop (pPrim (pOr fu) 100) fu2 t.raw x
theorem RdT.D {t : PT} (h : RdT t) (hl : t.flat.length ≤ 40) {fu : Nat} {x : List UInt8} (hf : t.flat.length ≤ fu) (h1 : stL x) (h2 : noSum x) (h3 : noAnd x) (h4 : noOr x) : pOr (fu + 1) (t.str ++ x) = (t.raw, x) := by
  obtain ⟨fu2, g1, g2⟩ := h.C fu x 100 hf (by omega) h1 h2 h3
  unfold pOr
  rw [g2]
  obtain ⟨fu3, rfl⟩ : ∃ fu3, fu2 = fu3 + 1 := ⟨fu2 - 1, by omega⟩
  exact oLoop_end h4
theorem RdT.P {t : PT} (h : RdT t) (hl : t.flat.length ≤ 40) {fu k : Nat} {x : List UInt8} (hf : t.flat.length + 1 ≤ fu) (hk : 1 ≤ k) : pPrim (pOr fu) k (par true t.str ++ x) = (t.raw, x) := by
  obtain ⟨fu, rfl⟩ : ∃ f, fu = f + 1 := ⟨fu - 1, by omega⟩
  obtain ⟨k, rfl⟩ : ∃ f, k = f + 1 := ⟨k - 1, by omega⟩
  have e : par true t.str ++ x = 40 :: (t.str ++ 41 :: x) := by simp [par]
  have := h.D hl (fu := fu) (x := 41 :: x) (by omega) (stL_par _) ⟨fun r e => (by cases e), fun r e => (by cases e)⟩ (fun r e => by cases e) (fun r e => by cases e)
  rw [e]
  show ((pOr (fu + 1) (t.str ++ 41 :: x)).1, (pOr (fu + 1) (t.str ++ 41 :: x)).2.drop 1) = _
  rw [this]; rfl
/-- With brackets about it, or of itself. -/
theorem RdT.AP {t : PT} (h : RdT t) (hl : t.flat.length ≤ 40) {fu k : Nat} {x : List UInt8} (hf : t.flat.length + 1 ≤ fu) (hk : t.flat.length ≤ k) (h1 : stL x) (h2 : noSum x) : pPrim (pOr fu) k (par (decide (bndK t.nd < 3)) t.str ++ x) = (t.raw, x) := by
  have := t.flat_pos
  rcases bnd_set t.nd with ⟨b, _⟩ | ⟨b, _⟩ | ⟨b, _⟩
  · rw [b]; exact h.P hl hf (by omega)
  · rw [b]; exact h.P hl hf (by omega)
  · rw [b]; exact h.A b fu k x (by omega) hk h1 h2
theorem RdT.BE {t : PT} (h : RdT t) (hl : t.flat.length ≤ 40) (hb : 2 ≤ bndK t.nd) {fu : Nat} {x : List UInt8} (hf : t.flat.length ≤ fu) (h1 : stL x) (h2 : noSum x) (h3 : noAnd x) : pAnd (pPrim (pOr fu) 100) (t.str ++ x) = (t.raw, x) := by
  obtain ⟨fu2, g1, g2⟩ := h.B hb fu x 100 hf (by omega) h1 h2
  unfold pAnd
  rw [g2]
  obtain ⟨fu3, rfl⟩ : ∃ fu3, fu2 = fu3 + 1 := ⟨fu2 - 1, by omega⟩
  exact aLoop_end h3
theorem RdT.BP {t : PT} (h : RdT t) (hl : t.flat.length ≤ 40) {fu : Nat} {x : List UInt8} (hf : t.flat.length + 1 ≤ fu) (h1 : stL x) (h2 : noSum x) (h3 : noAnd x) : pAnd (pPrim (pOr fu) 100) (par (decide (bndK t.nd < 2)) t.str ++ x) = (t.raw, x) := by
  rcases bnd_set t.nd with ⟨b, _⟩ | ⟨b, _⟩ | ⟨b, _⟩
  · rw [b]
    unfold pAnd
    have := h.P hl (fu := fu) (k := 100) (x := x) hf (by omega)
    rw [show decide ((1 : Int) < 2) = true from rfl, this]
    exact aLoop_end h3
  · rw [b]; exact h.BE hl (by omega) (by omega) h1 h2 h3
  · rw [b]; exact h.BE hl (by omega) (by omega) h1 h2 h3
/-- One that needs no more than a primary. -/
theorem RdT.of_A {t : PT} (hl : t.flat.length ≤ 40) (hb : bndK t.nd = 3) (A : ∀ fu k x, t.flat.length ≤ fu → t.flat.length ≤ k → stL x → noSum x → pPrim (pOr fu) k (t.str ++ x) = (t.raw, x)) : RdT t := by
  refine ⟨fun _ => A, fun _ fu x fu1 hf hf1 h1 h2 => ⟨fu1, by omega, by rw [A fu 100 x hf (by omega) h1 h2]⟩, fun fu x fu1 hf hf1 h1 h2 h3 => ⟨fu1, by omega, ?_⟩⟩
  have : pAnd (pPrim (pOr fu) 100) (t.str ++ x) = (t.raw, x) := by
    unfold pAnd
    rw [A fu 100 x hf (by omega) h1 h2]
    exact aLoop_end h3
  rw [this]
theorem rdT : ∀ {t : PT} {d : Nat}, t.ok d 0 → t.flat.length ≤ 40 → RdT t
  | t, 0, h, _ => by cases t <;> exact h.elim
  | .leaf n, d + 1, h, _ => by
    have hk := kids_no h.2.2 h.1
    have := h.1
    unfold mayN at this
    rw [if_pos rfl] at this
    have := of_decide_eq_true this
    omega
  | .one n a, d + 1, h, hl => by
    have hk := kids_one h.2.2.1
    have ha := h.2.2.2
    rw [show kidN (nK n) 0 = 0 by rw [hk]; rfl] at ha
    have hfl : (PT.one n a).flat.length = a.flat.length + 1 := rfl
    have ra := rdT ha (by omega)
    refine RdT.of_A hl (by show bndK n = 3; unfold bndK; rw [hk]; rfl) fun fu k x hf hk' h1 h2 => ?_
    obtain ⟨k, rfl⟩ : ∃ f, k = f + 1 := ⟨k - 1, by omega⟩
    show (RT.un (pPrim (pOr fu) k (par (decide (bndK a.nd < 3)) a.str ++ x)).1, (pPrim (pOr fu) k (par (decide (bndK a.nd < 3)) a.str ++ x)).2) = _
    rw [ra.AP (by omega) (by omega) (by omega) h1 h2]; rfl
  | .two n a b, d + 1, h, hl => by
    have hk := kids_two h.2.2.1
    have hm := h.1
    unfold mayN at hm
    rw [if_pos rfl] at hm
    have hm := of_decide_eq_true hm
    have hfl : (PT.two n a b).flat.length = a.flat.length + b.flat.length + 1 := by simp [PT.flat]
    have hs : (PT.two n a b).str = par (decide (bndK a.nd < lefP n)) a.str ++ [32] ++ wrdS n ++ [32] ++ par (decide (bndK b.nd < rigP n)) b.str := rfl
    have pa := a.flat_pos
    have pb := b.flat_pos
    have k124 : nK n = 1 ∨ nK n = 2 ∨ nK n = 4 := by omega
    rcases k124 with k | k | k
    · have ha := h.2.2.2.1
      have hb := h.2.2.2.2
      rw [show kidN (nK n) 0 = 0 by rw [k]; rfl] at ha
      rw [show kidN (nK n) 1 = 0 by rw [k]; rfl] at hb
      have ra := rdT ha (by omega)
      have rb := rdT hb (by omega)
      have hbn : bndK (PT.two n a b).nd = 2 := by show bndK n = 2; unfold bndK; rw [k]; rfl
      have hw : wrdS n = [97, 110, 100] := by unfold wrdS; rw [k]; rfl
      have e : ∀ x, (PT.two n a b).str ++ x = par (decide (bndK a.nd < 2)) a.str ++ (32 :: 97 :: 110 :: 100 :: 32 :: (par (decide (bndK b.nd < 3)) b.str ++ x)) := fun x => by
        rw [hs, show lefP n = 2 by unfold lefP; rw [k]; rfl, show rigP n = 3 by unfold rigP; rw [k]; rfl, hw]; simp
      have Bp : ∀ fu x fu1, (PT.two n a b).flat.length ≤ fu → (PT.two n a b).flat.length ≤ fu1 → stL x → noSum x → ∃ fu2, fu1 ≤ fu2 + (PT.two n a b).flat.length ∧ aLoop (pPrim (pOr fu) 100) fu1 (pPrim (pOr fu) 100 ((PT.two n a b).str ++ x)).1 (pPrim (pOr fu) 100 ((PT.two n a b).str ++ x)).2 = aLoop (pPrim (pOr fu) 100) fu2 (PT.two n a b).raw x := fun fu x fu1 hf hf1 h1 h2 => by
        rw [e]
        have rbx := rb.AP (by omega) (fu := fu) (k := 100) (x := x) (by omega) (by omega) h1 h2
        have first : ∃ fu2, fu1 ≤ fu2 + a.flat.length ∧ aLoop (pPrim (pOr fu) 100) fu1 (pPrim (pOr fu) 100 (par (decide (bndK a.nd < 2)) a.str ++ (32 :: 97 :: 110 :: 100 :: 32 :: (par (decide (bndK b.nd < 3)) b.str ++ x)))).1 (pPrim (pOr fu) 100 (par (decide (bndK a.nd < 2)) a.str ++ (32 :: 97 :: 110 :: 100 :: 32 :: (par (decide (bndK b.nd < 3)) b.str ++ x)))).2 = aLoop (pPrim (pOr fu) 100) fu2 a.raw (32 :: 97 :: 110 :: 100 :: 32 :: (par (decide (bndK b.nd < 3)) b.str ++ x)) := by
          have ns : noSum (32 :: 97 :: 110 :: 100 :: 32 :: (par (decide (bndK b.nd < 3)) b.str ++ x)) := ⟨fun r e => (by cases e), fun r e => (by cases e)⟩
          rcases bnd_set a.nd with ⟨q, _⟩ | ⟨q, _⟩ | ⟨q, _⟩
          · refine ⟨fu1, by omega, ?_⟩
            rw [q, show decide ((1 : Int) < 2) = true from rfl, ra.P (by omega) (by omega) (by omega)]
          · rw [q, show decide ((2 : Int) < 2) = false from rfl]
            exact ra.B (by omega) fu _ fu1 (by omega) (by omega) (stL_sp _) ns
          · rw [q, show decide ((3 : Int) < 2) = false from rfl]
            exact ra.B (by omega) fu _ fu1 (by omega) (by omega) (stL_sp _) ns
        obtain ⟨fu2, g1, g2⟩ := first
        rw [g2]
        obtain ⟨fu3, rfl⟩ : ∃ f, fu2 = f + 1 := ⟨fu2 - 1, by omega⟩
        refine ⟨fu3, by omega, ?_⟩
        show aLoop _ fu3 (.bin [97, 110, 100] a.raw (pPrim (pOr fu) 100 (par (decide (bndK b.nd < 3)) b.str ++ x)).1) (pPrim (pOr fu) 100 (par (decide (bndK b.nd < 3)) b.str ++ x)).2 = aLoop _ fu3 (.bin (wrdS n) a.raw b.raw) x
        rw [rbx, hw]
      refine ⟨fun q => by omega, fun _ => Bp, fun fu x fu1 hf hf1 h1 h2 h3 => ⟨fu1, by omega, ?_⟩⟩
      obtain ⟨fu2, g1, g2⟩ := Bp fu x 100 hf (by omega) h1 h2
      have : pAnd (pPrim (pOr fu) 100) ((PT.two n a b).str ++ x) = ((PT.two n a b).raw, x) := by
        unfold pAnd
        rw [g2]
        obtain ⟨fu3, rfl⟩ : ∃ f, fu2 = f + 1 := ⟨fu2 - 1, by omega⟩
        exact aLoop_end h3
      rw [this]
    · have ha := h.2.2.2.1
      have hb := h.2.2.2.2
      rw [show kidN (nK n) 0 = 0 by rw [k]; rfl] at ha
      rw [show kidN (nK n) 1 = 0 by rw [k]; rfl] at hb
      have ra := rdT ha (by omega)
      have rb := rdT hb (by omega)
      have hbn : bndK (PT.two n a b).nd = 1 := by show bndK n = 1; unfold bndK; rw [k]; rfl
      have hw : wrdS n = [111, 114] := by unfold wrdS; rw [k]; rfl
      have e : ∀ x, (PT.two n a b).str ++ x = a.str ++ (32 :: 111 :: 114 :: 32 :: (par (decide (bndK b.nd < 2)) b.str ++ x)) := fun x => by
        rw [hs, show lefP n = 1 by unfold lefP; rw [k]; rfl, show rigP n = 2 by unfold rigP; rw [k]; rfl, hw, show decide (bndK a.nd < 1) = false from decide_eq_false (by unfold bndK; split <;> (try split) <;> omega)]; simp [par]
      refine ⟨fun q => by omega, fun q => by omega, fun fu x fu1 hf hf1 h1 h2 h3 => ?_⟩
      rw [e]
      obtain ⟨fu2, g1, g2⟩ := ra.C fu (32 :: 111 :: 114 :: 32 :: (par (decide (bndK b.nd < 2)) b.str ++ x)) fu1 (by omega) (by omega) (stL_sp _) ⟨fun r e => (by cases e), fun r e => (by cases e)⟩ (fun r e => by cases e)
      rw [g2]
      obtain ⟨fu3, rfl⟩ : ∃ f, fu2 = f + 1 := ⟨fu2 - 1, by omega⟩
      refine ⟨fu3, by omega, ?_⟩
      show oLoop _ fu3 (.bin [111, 114] a.raw (pAnd (pPrim (pOr fu) 100) (par (decide (bndK b.nd < 2)) b.str ++ x)).1) (pAnd (pPrim (pOr fu) 100) (par (decide (bndK b.nd < 2)) b.str ++ x)).2 = oLoop _ fu3 (.bin (wrdS n) a.raw b.raw) x
      rw [rb.BP (by omega) (by omega) h1 h2 h3, hw]
    · refine RdT.of_A hl (by show bndK n = 3; unfold bndK; rw [k]; rfl) fun fu k' x hf hk' h1 h2 => ?_
      obtain ⟨k', rfl⟩ : ∃ f, k' = f + 1 := ⟨k' - 1, by omega⟩
      obtain ⟨c1, c2, c3⟩ := cmp_ok (x := x) k h hl h1 h2
      unfold pPrim
      split
      · rename_i r e'; exact absurd e' (c2 r)
      · rename_i r e'; exact absurd e' (c3 r)
      · exact c1
end Go.Proofs.Ytdpmojhejidhiaa.K
namespace Go.Proofs.Ytdpmojhejidhiaa.K
open Go.RowKit Go.Lib
set_option linter.unusedVariables false
set_option linter.unusedSimpArgs false
/-! ### literals -/
def und (l : List UInt8) : Nat := l.foldl (fun a c => 10 * a + (c.toNat - 48)) 0
theorem und_dec : ∀ (u : Nat), und (dec u) = u := by
  intro u
  have hd : ∀ d, d < 10 → (UInt8.ofNat (48 + d)).toNat - 48 = d := by
    have : ∀ d : Fin 10, (UInt8.ofNat (48 + d.1)).toNat - 48 = d.1 := by decide
    exact fun d h => this ⟨d, h⟩
  induction u using Nat.strongRecOn with
  | ind u ih =>
    by_cases h : u < 10
    · rw [dec_lt h]
      show 10 * 0 + ((UInt8.ofNat (48 + u)).toNat - 48) = u
      rw [hd u h]; omega
    · have := ih (u / 10) (by omega)
      unfold und at this ⊢
      rw [dec_ge h, List.foldl_append, this]
      show 10 * (u / 10) + ((UInt8.ofNat (48 + u % 10)).toNat - 48) = u
      rw [hd (u % 10) (by omega)]; omega
theorem dec_rng : ∀ (u : Nat), ∀ c ∈ dec u, 48 ≤ c.toNat ∧ c.toNat ≤ 57 := by
  intro u
  have hd : ∀ d, d < 10 → 48 ≤ (UInt8.ofNat (48 + d)).toNat ∧ (UInt8.ofNat (48 + d)).toNat ≤ 57 := by
    have : ∀ d : Fin 10, 48 ≤ (UInt8.ofNat (48 + d.1)).toNat ∧ (UInt8.ofNat (48 + d.1)).toNat ≤ 57 := by decide
    exact fun d h => this ⟨d, h⟩
  induction u using Nat.strongRecOn with
  | ind u ih =>
    intro c hc
    by_cases h : u < 10
    · rw [dec_lt h, List.mem_singleton] at hc; subst hc; exact hd u h
    · rw [dec_ge h] at hc
      rcases List.mem_append.1 hc with hc | hc
      · exact ih (u / 10) (by omega) c hc
      · rw [List.mem_singleton] at hc; subst hc; exact hd _ (by omega)
theorem decS_inj {m n : Int} (h : decS m = decS n) : m = n := by
  unfold decS at h
  by_cases a : m < 0
  · rw [if_pos a] at h
    by_cases b : n < 0
    · rw [if_pos b] at h
      have := congrArg und (List.cons.inj h).2
      rw [und_dec, und_dec] at this; omega
    · rw [if_neg b] at h
      have := dec_rng n.toNat 45 (by rw [← h]; simp)
      exact absurd this.1 (by decide)
  · rw [if_neg a] at h
    by_cases b : n < 0
    · rw [if_pos b] at h
      have := dec_rng m.toNat 45 (by rw [h]; simp)
      exact absurd this.1 (by decide)
    · rw [if_neg b] at h
      have := congrArg und h
      rw [und_dec, und_dec] at this; omega
theorem hexC_inj {a b : Nat} (ha : a < 16) (hb : b < 16) (h : B.hexC a = B.hexC b) : a = b := by
  have : ∀ a b : Fin 16, B.hexC a.1 = B.hexC b.1 → a.1 = b.1 := by decide
  exact this ⟨a, ha⟩ ⟨b, hb⟩ h
theorem hexs_inj : ∀ (k u v : Nat), u < 16 ^ k → v < 16 ^ k → hexs k u = hexs k v → u = v
  | 0, u, v, hu, hv, h => by simp at hu hv; omega
  | k + 1, u, v, hu, hv, h => by
    unfold hexs at h
    have e := List.append_inj h (by rw [hexs_len, hexs_len])
    have h1 := hexs_inj k (u / 16) (v / 16) (by rw [Nat.pow_succ] at hu; omega) (by rw [Nat.pow_succ] at hv; omega) e.1
    have h2 := hexC_inj (by omega) (by omega) (List.cons.inj e.2).1
    omega
theorem esc_inj {c d : UInt8} {s t : List UInt8} (h : B.escC c ++ s = B.escC d ++ t) : c = d ∧ s = t := by
  unfold B.escC at h
  have hc := c.toNat_lt
  have hd := d.toNat_lt
  by_cases c1 : c.toNat = 39
  · rw [if_pos c1] at h
    by_cases d1 : d.toNat = 39
    · rw [if_pos d1] at h
      exact ⟨UInt8.toNat_inj.1 (by omega), (List.cons.inj (List.cons.inj h).2).2⟩
    · rw [if_neg d1] at h
      by_cases d2 : d.toNat < 32 ∨ 126 < d.toNat ∨ d.toNat = 92
      · rw [if_pos d2] at h; exact absurd (List.cons.inj h).1 (by decide)
      · rw [if_neg d2] at h; exact absurd (by rw [← (List.cons.inj h).1]; rfl) d1
  · rw [if_neg c1] at h
    by_cases c2 : c.toNat < 32 ∨ 126 < c.toNat ∨ c.toNat = 92
    · rw [if_pos c2] at h
      by_cases d1 : d.toNat = 39
      · rw [if_pos d1] at h; exact absurd (List.cons.inj h).1 (by decide)
      · rw [if_neg d1] at h
        by_cases d2 : d.toNat < 32 ∨ 126 < d.toNat ∨ d.toNat = 92
        · rw [if_pos d2] at h
          have e1 := List.cons.inj (List.cons.inj h).2
          have e2 := List.cons.inj e1.2
          have a1 := hexC_inj (by omega) (by omega) e1.1
          have a2 := hexC_inj (by omega) (by omega) e2.1
          exact ⟨UInt8.toNat_inj.1 (by omega), e2.2⟩
        · rw [if_neg d2] at h
          exact absurd (.inr (.inr (by rw [← (List.cons.inj h).1]; rfl))) d2
    · rw [if_neg c2] at h
      by_cases d1 : d.toNat = 39
      · rw [if_pos d1] at h; exact absurd (by rw [(List.cons.inj h).1]; rfl) c1
      · rw [if_neg d1] at h
        by_cases d2 : d.toNat < 32 ∨ 126 < d.toNat ∨ d.toNat = 92
        · rw [if_pos d2] at h
          exact absurd (.inr (.inr (by rw [(List.cons.inj h).1]; rfl))) c2
        · rw [if_neg d2] at h; exact List.cons.inj h
theorem esc_ne (c : UInt8) : B.escC c ≠ [] := by unfold B.escC; split <;> (try split) <;> simp
theorem escs_inj : ∀ {l k : List UInt8}, l.flatMap B.escC = k.flatMap B.escC → l = k
  | [], [], _ => rfl
  | [], d :: k, h => by rw [List.flatMap_cons] at h; exact absurd (List.append_eq_nil_iff.1 h.symm).1 (esc_ne d)
  | c :: l, [], h => by rw [List.flatMap_cons] at h; exact absurd (List.append_eq_nil_iff.1 h).1 (esc_ne c)
  | c :: l, d :: k, h => by
    rw [List.flatMap_cons, List.flatMap_cons] at h
    obtain ⟨e1, e2⟩ := esc_inj h
    rw [e1, escs_inj e2]
/-- What a value that may be is, by its kind. -/
theorem chk_form {v : GValue} (h : chkV v = 0) : (v.Kind = 1 ∧ v = GValue.mk 1 v.N 0 []) ∨ (v.Kind = 2 ∧ (v.N = 0 ∨ v.N = 1) ∧ v = GValue.mk 2 v.N 0 []) ∨ (v.Kind = 3 ∧ v = GValue.mk 3 0 v.Bits []) ∨ (v.Kind = 4 ∧ v = GValue.mk 4 0 0 v.Text) := by
  obtain ⟨k, n, b, t⟩ := v
  unfold chkV at h
  simp only at h ⊢
  have ek : ∀ j : UInt8, k.toNat = j.toNat → k = j := fun j h => UInt8.toNat_inj.1 h
  by_cases h1 : k.toNat = 1
  · rw [if_pos h1] at h
    obtain rfl := ek 1 h1
    split at h
    · omega
    · split at h
      · rename_i q; exact .inl ⟨rfl, by rw [q.1, q.2]⟩
      · omega
  rw [if_neg h1] at h
  by_cases h2 : k.toNat = 2
  · rw [if_pos h2] at h
    obtain rfl := ek 2 h2
    split at h
    · omega
    · split at h
      · rename_i q0 q; exact .inr (.inl ⟨rfl, by omega, by rw [q.1, q.2]⟩)
      · omega
  rw [if_neg h2] at h
  by_cases h3 : k.toNat = 3
  · rw [if_pos h3] at h
    obtain rfl := ek 3 h3
    split at h
    · omega
    · split at h
      · rename_i q; exact .inr (.inr (.inl ⟨rfl, by rw [q.1, q.2]⟩))
      · omega
  rw [if_neg h3] at h
  by_cases h4 : k.toNat = 4
  · rw [if_pos h4] at h
    obtain rfl := ek 4 h4
    split at h
    · omega
    · split at h
      · rename_i q; exact .inr (.inr (.inr ⟨rfl, by rw [q.1, q.2]⟩))
      · omega
  · rw [if_neg h4] at h; omega
/-- A literal's text by its kind: it begins so. -/
theorem lit_form {v : GValue} (h : chkV v = 0) : (v.Kind = 1 ∧ litS v = decS v.N) ∨ (v.Kind = 2 ∧ litS v = if v.N = 0 then [102, 97, 108, 115, 101] else [116, 114, 117, 101]) ∨ (v.Kind = 3 ∧ litS v = 35 :: hexs 16 v.Bits.toNat) ∨ (v.Kind = 4 ∧ litS v = 39 :: (v.Text.flatMap B.escC ++ [39])) := by
  unfold litS
  rw [if_neg (by simp [h])]
  rcases chk_form h with ⟨k, _⟩ | ⟨k, _⟩ | ⟨k, _⟩ | ⟨k, _⟩ <;> rw [k]
  · exact .inl ⟨rfl, rfl⟩
  · exact .inr (.inl ⟨rfl, rfl⟩)
  · exact .inr (.inr (.inl ⟨rfl, rfl⟩))
  · exact .inr (.inr (.inr ⟨rfl, rfl⟩))
theorem decS_head (n : Int) : ∃ c r, decS n = c :: r ∧ (c = 45 ∨ 48 ≤ c.toNat ∧ c.toNat ≤ 57) ∧ ∀ d ∈ c :: r, d = 45 ∨ 48 ≤ d.toNat ∧ d.toNat ≤ 57 := by
  unfold decS
  split
  · refine ⟨45, _, rfl, .inl rfl, fun d hd => ?_⟩
    rcases List.mem_cons.1 hd with rfl | hd
    · exact .inl rfl
    · exact .inr (dec_rng _ d hd)
  · cases h : dec n.toNat with
    | nil => exact absurd h (dec_ne _)
    | cons c r =>
      have : ∀ d ∈ c :: r, d = 45 ∨ 48 ≤ d.toNat ∧ d.toNat ≤ 57 := fun d hd => .inr (dec_rng n.toNat d (by rw [h]; exact hd))
      exact ⟨c, r, rfl, this c (by simp), this⟩
/-- 1: a whole number, 2: a truth, 3: bits, 4: a text. -/
def litK : List UInt8 → Nat
  | [] => 0
  | c :: _ => if c = 39 then 4 else if c = 35 then 3 else if c = 102 ∨ c = 116 then 2 else 1
theorem litK_ok {v : GValue} (h : chkV v = 0) : litK (litS v) = v.Kind.toNat := by
  rcases lit_form h with ⟨k, e⟩ | ⟨k, e⟩ | ⟨k, e⟩ | ⟨k, e⟩ <;> rw [e, k]
  · obtain ⟨c, r, e', hc, _⟩ := decS_head v.N
    rw [e']
    unfold litK
    have n1 : c ≠ 39 := fun q => by subst q; revert hc; decide
    have n2 : c ≠ 35 := fun q => by subst q; revert hc; decide
    have n3 : ¬ (c = 102 ∨ c = 116) := fun q => by rcases q with q | q <;> (subst q; revert hc; decide)
    show (if c = 39 then 4 else if c = 35 then 3 else if c = 102 ∨ c = 116 then 2 else 1) = _
    rw [if_neg n1, if_neg n2, if_neg n3]; rfl
  · split <;> rfl
  · rfl
  · rfl
theorem lit_inj {v w : GValue} (hv : chkV v = 0) (hw : chkV w = 0) (bv : u64B v.Bits) (bw : u64B w.Bits) (h : litS v = litS w) : v = w := by
  have hk : v.Kind = w.Kind := UInt8.toNat_inj.1 (by rw [← litK_ok hv, ← litK_ok hw, h])
  rcases chk_form hv with ⟨k, e⟩ | ⟨k, q, e⟩ | ⟨k, e⟩ | ⟨k, e⟩ <;> rcases chk_form hw with ⟨k', e'⟩ | ⟨k', q', e'⟩ | ⟨k', e'⟩ | ⟨k', e'⟩ <;> (try (rw [k, k'] at hk; exact absurd hk (by decide)))
  · rcases lit_form hv with ⟨j, f⟩ | ⟨j, f⟩ | ⟨j, f⟩ | ⟨j, f⟩ <;> (try (rw [k] at j; exact absurd j (by decide)))
    rcases lit_form hw with ⟨j', f'⟩ | ⟨j', f'⟩ | ⟨j', f'⟩ | ⟨j', f'⟩ <;> (try (rw [k'] at j'; exact absurd j' (by decide)))
    rw [f, f'] at h
    rw [e, e', decS_inj h]
  · rcases lit_form hv with ⟨j, f⟩ | ⟨j, f⟩ | ⟨j, f⟩ | ⟨j, f⟩ <;> (try (rw [k] at j; exact absurd j (by decide)))
    rcases lit_form hw with ⟨j', f'⟩ | ⟨j', f'⟩ | ⟨j', f'⟩ | ⟨j', f'⟩ <;> (try (rw [k'] at j'; exact absurd j' (by decide)))
    rw [f, f'] at h
    have : v.N = w.N := by
      rcases q with q | q <;> rcases q' with q' | q' <;> rw [q, q'] at h ⊢ <;> exact absurd h (by decide)
    rw [e, e', this]
  · rcases lit_form hv with ⟨j, f⟩ | ⟨j, f⟩ | ⟨j, f⟩ | ⟨j, f⟩ <;> (try (rw [k] at j; exact absurd j (by decide)))
    rcases lit_form hw with ⟨j', f'⟩ | ⟨j', f'⟩ | ⟨j', f'⟩ | ⟨j', f'⟩ <;> (try (rw [k'] at j'; exact absurd j' (by decide)))
    rw [f, f'] at h
    have := hexs_inj 16 _ _ (by have := bv.1; have := bv.2; omega) (by have := bw.1; have := bw.2; omega) (List.cons.inj h).2
    have hb : v.Bits = w.Bits := by have := bv.1; have := bw.1; omega
    rw [e, e', hb]
  · rcases lit_form hv with ⟨j, f⟩ | ⟨j, f⟩ | ⟨j, f⟩ | ⟨j, f⟩ <;> (try (rw [k] at j; exact absurd j (by decide)))
    rcases lit_form hw with ⟨j', f'⟩ | ⟨j', f'⟩ | ⟨j', f'⟩ | ⟨j', f'⟩ <;> (try (rw [k'] at j'; exact absurd j' (by decide)))
    rw [f, f'] at h
    have := escs_inj (List.append_cancel_right (List.cons.inj h).2)
    rw [e, e', this]
/-! ### leaves -/
theorem nk_of {n : GNode_} {k : UInt8} (h : nK n = k.toNat) : n.Kind = k := UInt8.toNat_inj.1 h
theorem mr_form {n : GNode_} (h : mr n = false) : (nK n ≠ 4 → n.Op = 0) ∧ (nK n ≠ 7 → nK n ≠ 8 → n.Name = []) ∧ (nK n ≠ 8 → n.Var = []) ∧ (nK n ≠ 9 → n.Val = zV) := by
  unfold mr at h
  simp only [Bool.or_eq_false_iff, decide_eq_false_iff_not] at h
  refine ⟨fun a => UInt8.toNat_inj.1 ?_, fun a b => ?_, fun a => ?_, fun a => ?_⟩
  · have := h.1.1.1
    show n.Op.toNat = 0
    omega
  · exact Classical.byContradiction fun c => h.1.1.2 ⟨a, b, c⟩
  · exact Classical.byContradiction fun c => h.1.2 ⟨a, c⟩
  · exact Classical.byContradiction fun c => h.2 ⟨a, c⟩
theorem name_head {s : List UInt8} (h : nameB s = true) : ∃ c r, s = c :: r ∧ lett c = true := by
  cases s with
  | nil => cases h
  | cons c t =>
    rw [nameB_cons] at h
    simp only [Bool.and_eq_true] at h
    exact ⟨c, t, rfl, h.1.2⟩
theorem lett_rng {c : UInt8} (h : lett c = true) : 97 ≤ c.toNat ∧ c.toNat ≤ 122 := by
  unfold lett at h
  simpa using h
/-- A literal begins with a letter just if it is a word. -/
theorem lit_lett {v : GValue} (h : chkV v = 0) {c : UInt8} {r : List UInt8} (e : litS v = c :: r) (hl : lett c = true) : litS v = [102, 97, 108, 115, 101] ∨ litS v = [116, 114, 117, 101] := by
  have := lett_rng hl
  rcases lit_form h with ⟨k, f⟩ | ⟨k, f⟩ | ⟨k, f⟩ | ⟨k, f⟩ <;> rw [f] at e
  · obtain ⟨c', r', e', hc, _⟩ := decS_head v.N
    rw [e'] at e
    rw [(List.cons.inj e).1] at hc
    rcases hc with q | q
    · subst q; exact absurd this.1 (by decide)
    · omega
  · rw [f]; split
    · exact .inl rfl
    · exact .inr rfl
  · have := (List.cons.inj e).1; subst this; exact absurd hl (by decide)
  · have := (List.cons.inj e).1; subst this; exact absurd hl (by decide)
theorem dot_split : ∀ {a b : List UInt8} {x y : List UInt8}, (∀ c ∈ a, c ≠ 46) → (∀ c ∈ b, c ≠ 46) → a ++ 46 :: x = b ++ 46 :: y → a = b ∧ x = y
  | [], [], x, y, _, _, h => ⟨rfl, (List.cons.inj h).2⟩
  | [], d :: b, x, y, _, hb, h => absurd (List.cons.inj h).1.symm (hb d (by simp))
  | c :: a, [], x, y, ha, _, h => absurd (List.cons.inj h).1 (ha c (by simp))
  | c :: a, d :: b, x, y, ha, hb, h => by
    obtain ⟨e1, e2⟩ := dot_split (fun z hz => ha z (by simp [hz])) (fun z hz => hb z (by simp [hz])) (List.cons.inj h).2
    exact ⟨by rw [(List.cons.inj h).1, e1], e2⟩
theorem tail_dot {c : UInt8} (h : tailc c = true) : c ≠ 46 := fun e => by subst e; revert h; decide
theorem lefT_inj {n m : GNode_} (hn : nK n = 7 ∨ nK n = 8 ∨ nK n = 9) (hm : nK m = 7 ∨ nK m = 8 ∨ nK m = 9) (en : ndE n = 0) (em : ndE m = 0) (bn : u64B n.Val.Bits) (bm : u64B m.Val.Bits) (h : lefT n = lefT m) : n = m := by
  have ln := (lk_of en).1
  have lm := (lk_of em).1
  have fn := mr_form (lk_of en).2
  have fm := mr_form (lk_of em).2
  unfold lk at ln lm
  unfold lefT at h
  -- what a name or a name of another's is not
  have no79 : ∀ {a b : GNode_}, nameB a.Name = true → chkV b.Val = 0 → a.Name = litS b.Val → False := fun ha hb e => by
    obtain ⟨c, r, q, hc⟩ := name_head ha
    have := (name_all ha).2.2
    rw [q] at e
    rcases lit_lett hb e.symm hc with f | f <;> (rw [q, e, f] at this; revert this; decide)
  have no89 : ∀ {a b : GNode_}, nameB a.Var = true → chkV b.Val = 0 → a.Var ++ [46] ++ a.Name = litS b.Val → False := fun {a b} ha hb e => by
    obtain ⟨c, r, q, hc⟩ := name_head ha
    rw [q] at e
    have d : (46 : UInt8) ∈ litS b.Val := by rw [← e]; simp
    rcases lit_lett hb (r := r ++ [46] ++ a.Name) (by rw [← e]; simp) hc with f | f <;> (rw [f] at d; revert d; decide)
  have no78 : ∀ {a b : GNode_}, nameB a.Name = true → a.Name = b.Var ++ [46] ++ b.Name → False := fun {a b} ha e => by
    have := (name_all ha).2.1 46 (by rw [e]; simp)
    exact tail_dot this rfl
  have eq : ∀ {a b : GNode_}, a.Kind = b.Kind → a.Op = b.Op → a.Var = b.Var → a.Name = b.Name → a.Val = b.Val → a = b := fun {a b} h1 h2 h3 h4 h5 => by
    cases a; cases b; simp_all
  rcases hn with k | k | k <;> rcases hm with j | j | j <;> rw [k] at ln fn <;> rw [j] at lm fm <;> rw [k, j] at h
  · exact eq (UInt8.toNat_inj.1 (k.trans j.symm)) ((fn.1 (by decide)).trans (fm.1 (by decide)).symm) ((fn.2.2.1 (by decide)).trans (fm.2.2.1 (by decide)).symm) h ((fn.2.2.2 (by decide)).trans (fm.2.2.2 (by decide)).symm)
  · exact (no78 (by simpa using ln) h).elim
  · exact (no79 (by simpa using ln) (by simpa using lm) h).elim
  · exact (no78 (by simpa using lm) h.symm).elim
  · have l1 : nameB n.Name = true ∧ nameB n.Var = true := by simpa [and_comm] using ln
    have l2 : nameB m.Name = true ∧ nameB m.Var = true := by simpa [and_comm] using lm
    have h' : n.Var ++ 46 :: n.Name = m.Var ++ 46 :: m.Name := by simpa using h
    obtain ⟨e1, e2⟩ := dot_split (fun c hc => tail_dot ((name_all l1.2).2.1 c hc)) (fun c hc => tail_dot ((name_all l2.2).2.1 c hc)) h'
    exact eq (UInt8.toNat_inj.1 (k.trans j.symm)) ((fn.1 (by decide)).trans (fm.1 (by decide)).symm) e1 e2 ((fn.2.2.2 (by decide)).trans (fm.2.2.2 (by decide)).symm)
  · have l1 : nameB n.Name = true ∧ nameB n.Var = true := by simpa [and_comm] using ln
    exact (no89 l1.2 (by simpa using lm) h).elim
  · exact (no79 (by simpa using lm) (by simpa using ln) h.symm).elim
  · have l2 : nameB m.Name = true ∧ nameB m.Var = true := by simpa [and_comm] using lm
    exact (no89 l2.2 (by simpa using ln) h.symm).elim
  · have e := lit_inj (by simpa using ln) (by simpa using lm) bn bm h
    exact eq (UInt8.toNat_inj.1 (k.trans j.symm)) ((fn.1 (by decide)).trans (fm.1 (by decide)).symm) ((fn.2.2.1 (by decide)).trans (fm.2.2.1 (by decide)).symm) ((fn.2.1 (by decide) (by decide)).trans (fm.2.1 (by decide) (by decide)).symm) e
/-! ### trees -/
theorem sign_inj {o q : UInt8} (ho : ¬ (o.toNat < 1 ∨ 6 < o.toNat)) (hq : ¬ (q.toNat < 1 ∨ 6 < q.toNat)) (h : signS o = signS q) : o = q := by
  have : ∀ a b : Fin 7, 1 ≤ a.1 → 1 ≤ b.1 → signS (UInt8.ofNat a.1) = signS (UInt8.ofNat b.1) → a.1 = b.1 := by decide
  have h2 := this ⟨o.toNat, by omega⟩ ⟨q.toNat, by omega⟩ (by show 1 ≤ o.toNat; omega) (by show 1 ≤ q.toNat; omega) (by simpa using h)
  exact UInt8.toNat_inj.1 h2
/-- 1: and, 2: or, 4: a comparison, 5: plus, 6: minus. -/
def wrdK (w : List UInt8) : Nat := if w = [97, 110, 100] then 1 else if w = [111, 114] then 2 else if w = [43] then 5 else if w = [45] then 6 else 4
theorem wrdK_ok {n : GNode_} (hk : kidsN (nK n) = 2) (h : ndE n = 0) : wrdK (wrdS n) = nK n := by
  have hl := (lk_of h).1
  unfold lk at hl
  unfold wrdS
  rcases kids_two hk with k | k | k | k | k <;> rw [k] at hl ⊢
  · rfl
  · rfl
  · have ho := of_decide_eq_false hl
    show wrdK (signS n.Op) = 4
    have : ∀ a : Fin 7, 1 ≤ a.1 → wrdK (signS (UInt8.ofNat a.1)) = 4 := by decide
    have h2 := this ⟨n.Op.toNat, by omega⟩ (by show 1 ≤ n.Op.toNat; omega)
    simpa using h2
  · rfl
  · rfl
theorem node_eq2 {n m : GNode_} (kn : nK n ≤ 6) (e : nK n = nK m) (hn : ndE n = 0) (hm : ndE m = 0) (ho : n.Op = m.Op) : n = m := by
  have fn := mr_form (lk_of hn).2
  have fm := mr_form (lk_of hm).2
  have e1 : n.Kind = m.Kind := UInt8.toNat_inj.1 e
  have e2 : n.Name = m.Name := (fn.2.1 (by omega) (by omega)).trans (fm.2.1 (by omega) (by omega)).symm
  have e3 : n.Var = m.Var := (fn.2.2.1 (by omega)).trans (fm.2.2.1 (by omega)).symm
  have e4 : n.Val = m.Val := (fn.2.2.2 (by omega)).trans (fm.2.2.2 (by omega)).symm
  cases n; cases m; simp_all
theorem raw_inj : ∀ {t u : PT} {d e wh wh' : Nat}, t.ok d wh → u.ok e wh' → nS t.flat → nS u.flat → t.raw = u.raw → t = u
  | t, u, 0, e, wh, wh', h, _, _, _, _ => by cases t <;> exact h.elim
  | t, u, d + 1, 0, wh, wh', _, h, _, _, _ => by cases u <;> exact h.elim
  | .leaf n, .leaf m, d + 1, e + 1, wh, wh', h, g, hS, gS, q => by
    rw [lefT_inj (kids_no h.2.2 h.1) (kids_no g.2.2 g.1) h.2.1 g.2.1 (hS n (by simp [PT.flat])).1 (gS m (by simp [PT.flat])).1 (RT.leaf.inj q)]
  | .one n a, .one m b, d + 1, e + 1, wh, wh', h, g, hS, gS, q => by
    have k1 := kids_one h.2.2.1
    have k2 := kids_one g.2.2.1
    have fn := mr_form (lk_of h.2.1).2
    have fm := mr_form (lk_of g.2.1).2
    rw [node_eq2 (by omega) (by omega) h.2.1 g.2.1 ((fn.1 (by omega)).trans (fm.1 (by omega)).symm), raw_inj h.2.2.2 g.2.2.2 (fun x hx => hS x (by simp [PT.flat, hx])) (fun x hx => gS x (by simp [PT.flat, hx])) (RT.un.inj q)]
  | .two n a b, .two m c f, d + 1, e + 1, wh, wh', h, g, hS, gS, q => by
    obtain ⟨q1, q2, q3⟩ := RT.bin.inj q
    have k1 := kids_two h.2.2.1
    have k2 := kids_two g.2.2.1
    have ek : nK n = nK m := by rw [← wrdK_ok h.2.2.1 h.2.1, ← wrdK_ok g.2.2.1 g.2.1, q1]
    have fn := mr_form (lk_of h.2.1).2
    have fm := mr_form (lk_of g.2.1).2
    have eo : n.Op = m.Op := by
      by_cases k4 : nK n = 4
      · have l1 := (lk_of h.2.1).1
        have l2 := (lk_of g.2.1).1
        unfold lk at l1 l2
        rw [if_pos k4] at l1
        rw [if_pos (ek ▸ k4)] at l2
        have w1 : wrdS n = signS n.Op := by unfold wrdS; rw [k4]; rfl
        have w2 : wrdS m = signS m.Op := by unfold wrdS; rw [← ek, k4]; rfl
        rw [w1, w2] at q1
        exact sign_inj (of_decide_eq_false l1) (of_decide_eq_false l2) q1
      · exact (fn.1 k4).trans (fm.1 (ek ▸ k4)).symm
    rw [node_eq2 (by omega) ek h.2.1 g.2.1 eo, raw_inj h.2.2.2.1 g.2.2.2.1 (fun x hx => hS x (by simp [PT.flat, hx])) (fun x hx => gS x (by simp [PT.flat, hx])) q2, raw_inj h.2.2.2.2 g.2.2.2.2 (fun x hx => hS x (by simp [PT.flat, hx])) (fun x hx => gS x (by simp [PT.flat, hx])) q3]
  | .leaf n, .one m b, d + 1, e + 1, wh, wh', h, g, hS, gS, q => by cases q
  | .leaf n, .two m b c, d + 1, e + 1, wh, wh', h, g, hS, gS, q => by cases q
  | .one n a, .leaf m, d + 1, e + 1, wh, wh', h, g, hS, gS, q => by cases q
  | .one n a, .two m b c, d + 1, e + 1, wh, wh', h, g, hS, gS, q => by cases q
  | .two n a b, .leaf m, d + 1, e + 1, wh, wh', h, g, hS, gS, q => by cases q
  | .two n a b, .one m c, d + 1, e + 1, wh, wh', h, g, hS, gS, q => by cases q
end Go.Proofs.Ytdpmojhejidhiaa.K
