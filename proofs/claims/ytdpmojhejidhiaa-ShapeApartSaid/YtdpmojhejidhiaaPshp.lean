/- Patterns as trees: what a node needs, the walk over nodes, plain. -/
import Derived.Test.YtdpmojhejidhiaaMpb
namespace Go.Proofs.Ytdpmojhejidhiaa.K
open Go.RowKit Go.Lib
set_option linter.unusedVariables false
set_option linter.unusedSimpArgs false
abbrev kS (n : GNode) : Nat := n.Kind.toNat
def lisB (n : GNode) : Bool := decide (kS n = 1) || decide (kS n = 2)
def leaB (n : GNode) : Bool := decide (kS n = 4) || decide (kS n = 5)
theorem ik1 (n : GNode) : decide (((n.Kind.toNat : Nat) : Int) = 1) = decide (kS n = 1) := decide_eq_decide.2 (by show _ ↔ n.Kind.toNat = 1; omega)
theorem ik2 (n : GNode) : decide (((n.Kind.toNat : Nat) : Int) = 2) = decide (kS n = 2) := decide_eq_decide.2 (by show _ ↔ n.Kind.toNat = 2; omega)
theorem ik3 (n : GNode) : decide (((n.Kind.toNat : Nat) : Int) = 3) = decide (kS n = 3) := decide_eq_decide.2 (by show _ ↔ n.Kind.toNat = 3; omega)
theorem ik4 (n : GNode) : decide (((n.Kind.toNat : Nat) : Int) = 4) = decide (kS n = 4) := decide_eq_decide.2 (by show _ ↔ n.Kind.toNat = 4; omega)
theorem ik5 (n : GNode) : decide (((n.Kind.toNat : Nat) : Int) = 5) = decide (kS n = 5) := decide_eq_decide.2 (by show _ ↔ n.Kind.toNat = 5; omega)
theorem c_or (a b : Prop) [Decidable a] [Decidable b] : cond (decide a) (some true) (some (decide b)) = some (decide a || decide b) := by
  by_cases h : a <;> simp [h]
theorem list_ok (n : GNode) : m_shape_Node_list n = some (lisB n) := by
  unfold m_shape_Node_list lisB
  rw [c_or, ik1, ik2]
theorem leaf_ok (n : GNode) : m_shape_Node_leaf n = some (leaB n) := by
  unfold m_shape_Node_leaf leaB
  rw [c_or, ik4, ik5]
def oftB (n : GNode) : Bool := decide (0 ≤ n.Lo ∧ n.Lo ≤ 8 ∧ 0 ≤ n.Hi ∧ n.Hi ≤ 8 ∧ ¬ (n.Lo = 1 ∧ n.Hi = 1) ∧ (n.Hi = 0 ∨ n.Lo ≤ n.Hi))
theorem often_ok (n : GNode) : m_shape_Node_often n = some (oftB n) := by
  unfold m_shape_Node_often m_shape_Node_often_j1 m_shape_Node_often_j2 oftB
  by_cases a : n.Lo < 0
  · rw [decide_eq_true a, cond_true, decide_eq_false (by omega)]
  rw [decide_eq_false a, cond_false]
  by_cases b : 8 < n.Lo
  · rw [decide_eq_true b, cond_true, decide_eq_false (by omega)]
  rw [decide_eq_false b, cond_false]
  by_cases c : n.Hi < 0
  · rw [decide_eq_true c, cond_true, decide_eq_false (by omega)]
  rw [decide_eq_false c, cond_false]
  by_cases d : 8 < n.Hi
  · rw [decide_eq_true d, cond_true, decide_eq_false (by omega)]
  rw [decide_eq_false d, cond_false, c_or, ← Bool.decide_or]
  by_cases e : n.Lo = 1
  · rw [decide_eq_true e, cond_true]
    by_cases f : n.Hi = 1
    · rw [decide_eq_true f, cond_true, decide_eq_false (by omega)]
    · rw [decide_eq_false f, cond_false]; congr 1; exact decide_eq_decide.2 (by omega)
  · rw [decide_eq_false e, cond_false]; congr 1; exact decide_eq_decide.2 (by omega)
def lacS (n : GNode) : Bool := if lisB n = true then decide (n.Kids < 2) || decide (40 < n.Kids) else if kS n = 3 then decide (n.Kids ≠ 1) || !oftB n else !nameB n.Var || !nameB n.Type_ || decide (chkT n.Test ≠ 0)
def morS (n : GNode) : Bool := if leaB n = true then decide (n.Lo ≠ 0) || decide (n.Hi ≠ 0) || decide (n.Kids ≠ 0) else decide (n.Var ≠ []) || decide (n.Type_ ≠ []) || decide (0 < n.Test.length) || (decide (n.Lo ≠ 0) || decide (n.Hi ≠ 0)) && decide (kS n ≠ 3)
theorem lacS_ok {n : GNode} (ht : n.Test.length ≤ 40) (hS : nS n.Test) : m_shape_Node_lacks n = some (lacS n) := by
  unfold m_shape_Node_lacks lacS
  rw [list_ok, obind_some]
  cases lisB n with
  | true => rw [cond_true, if_pos rfl, c_or]
  | false =>
    rw [cond_false, if_neg (by simp), ik3]
    by_cases h : kS n = 3
    · rw [decide_eq_true h, cond_true, if_pos h, often_ok, obind_some]
      by_cases q : n.Kids ≠ 1
      · rw [decide_eq_true q]; rfl
      · rw [decide_eq_false q]; rfl
    · rw [decide_eq_false h, cond_false, if_neg h, name_ok, obind_some, name_ok, obind_some, pcheck_ok (nB_of ht hS), obind_some]
      cases nameB n.Var <;> cases nameB n.Type_ <;> rfl
theorem morS_ok (n : GNode) : m_shape_Node_more n = some (morS n) := by
  unfold m_shape_Node_more m_shape_Node_more_j2 m_shape_Node_more_j7 morS
  rw [leaf_ok]
  simp only [obind_some]
  rw [show decide (((n.Kind.toNat : Nat) : Int) ≠ 3) = decide (kS n ≠ 3) from decide_eq_decide.2 (by show _ ↔ n.Kind.toNat ≠ 3; omega), show decide ((0 : Int) < ((List.length n.Test : Nat) : Int)) = decide (0 < n.Test.length) from decide_eq_decide.2 (by omega)]
  generalize decide (n.Lo ≠ 0) = a
  generalize decide (n.Hi ≠ 0) = b
  generalize decide (n.Kids ≠ 0) = c
  generalize decide (n.Var ≠ []) = d
  generalize decide (n.Type_ ≠ []) = e
  generalize decide (0 < n.Test.length) = f
  generalize decide (kS n ≠ 3) = g
  generalize leaB n = l
  revert a b c d e f g l; decide
def stdB (n : GNode) (a : UInt8) : Bool := decide (1 ≤ kS n ∧ kS n ≤ 5) && if lisB n = true then decide (kS n ≠ a.toNat) else decide (kS n ≠ 5) || decide (a.toNat ≠ 3)
theorem stdB_ok (n : GNode) (a : UInt8) : m_shape_Node_stands n a = some (stdB n a) := by
  unfold m_shape_Node_stands stdB
  have hk : kS n = n.Kind.toNat := rfl
  by_cases h : kS n < 1
  · rw [decide_eq_true (by omega), cond_true, decide_eq_false (by omega)]; rfl
  rw [decide_eq_false (by omega), cond_false]
  by_cases h5 : 5 < kS n
  · rw [decide_eq_true (by omega), cond_true, decide_eq_false (by omega)]; rfl
  rw [decide_eq_false (by omega), cond_false, decide_eq_true (p := 1 ≤ kS n ∧ kS n ≤ 5) (by omega), Bool.true_and, list_ok, obind_some]
  cases lisB n with
  | true => rw [cond_true, if_pos rfl]; congr 1; exact decide_eq_decide.2 (by omega)
  | false =>
    rw [cond_false, if_neg (by simp), c_or]
    congr 2 <;> exact decide_eq_decide.2 (by omega)
def kdN (n : GNode) : Nat := if lisB n = true then (max 0 (min n.Kids 40)).toNat else if kS n = 3 then 1 else 0
theorem kdN_le (n : GNode) : kdN n ≤ 40 := by unfold kdN; split <;> (try split) <;> omega
theorem skids_ok (n : GNode) : m_shape_Node_kids n = some (kdN n : Int) := by
  unfold m_shape_Node_kids kdN
  rw [list_ok, obind_some]
  cases lisB n with
  | true => rw [cond_true, if_pos rfl]; congr 1; omega
  | false =>
    rw [cond_false, if_neg (by simp), ik3]
    by_cases h : kS n = 3
    · rw [decide_eq_true h, if_pos h]; rfl
    · rw [decide_eq_false h, if_neg h]; rfl
/-- So many, one behind the other: what is left, an error. -/
def itF (f : List GNode → List GNode × Int) : Nat → List GNode → List GNode × Int
  | 0, l => (l, 0)
  | k + 1, l => if (f l).2 ≠ 0 then ([], (f l).2) else itF f k (f l).1
def stre : Nat → UInt8 → List GNode → List GNode × Int
  | _, _, [] => ([], 3)
  | 0, _, _ :: _ => ([], 15)
  | d + 1, a, n :: r => if stdB n a = false then ([], 11) else if lacS n = true then ([], 4) else if morS n = true then ([], 2) else itF (stre d n.Kind) (kdN n) r
theorem itF_sub {f : List GNode → List GNode × Int} (hf : ∀ l, (f l).1 <:+ l) : ∀ (k : Nat) (l : List GNode), (itF f k l).1 <:+ l
  | 0, l => List.suffix_refl _
  | k + 1, l => by
    unfold itF
    split
    · exact List.nil_suffix
    · exact (itF_sub hf k _).trans (hf l)
theorem stre_sub : ∀ (d : Nat) (a : UInt8) (l : List GNode), (stre d a l).1 <:+ l
  | d, a, [] => by cases d <;> exact List.suffix_refl _
  | 0, a, n :: r => List.nil_suffix
  | d + 1, a, n :: r => by
    unfold stre
    split
    · exact List.nil_suffix
    · split
      · exact List.nil_suffix
      · split
        · exact List.nil_suffix
        · exact (itF_sub (fun l => stre_sub d n.Kind l) _ _).trans (List.suffix_cons _ _)
/-- Nodes that a statement takes. -/
def sS (l : List GNode) : Prop := ∀ n ∈ l, n.Var.length ≤ 40 ∧ n.Type_.length ≤ 40 ∧ n.Test.length ≤ 40 ∧ nS n.Test
theorem sS_suf {l k : List GNode} (h : k <:+ l) (hS : sS l) : sS k := fun n hn => hS n (h.subset hn)
theorem sl6_ok {p2 : Int} (h1 : 0 ≤ p2) (h2 : p2 ≤ 16) {n : GNode} {K : List GNode → UInt8 → Int → Option (List GNode × Int)} {f : List GNode → List GNode × Int} (hf : ∀ l, (f l).1 <:+ l) {l0 : List GNode}
    (ih : ∀ l, l <:+ l0 → K l n.Kind (p2 + 1) = some (f l)) {k : Nat} (hk : k ≤ 40) : ∀ (fu i : Nat) (l : List GNode), k - i < fu → i ≤ k → l <:+ l0 → m_shape_tree_l6 p2 (k : Int) n K fu l (i : Int) = some (itF f (k - i) l)
  | 0, i, l, h, _, _ => by omega
  | fu + 1, i, l, h, hi, hs => by
    unfold m_shape_tree_l6
    rw [show IntKind.i64.wrap (p2 + 1) = p2 + 1 from w64 (by omega) (by omega)]
    by_cases c : i < k
    · rw [decide_eq_true (by omega), cond_true, ih l hs, obind_some, show k - i = (k - (i + 1)) + 1 by omega, itF]
      by_cases q : (f l).2 = 0
      · rw [decide_eq_false (by simp [q]), cond_false, if_neg (by simp [q]), inc_ok (by omega)]
        exact sl6_ok h1 h2 hf ih hk fu (i + 1) _ (by omega) (by omega) ((hf l).trans hs)
      · rw [decide_eq_true q, cond_true, if_pos q]
    · rw [decide_eq_false (by omega), cond_false, show k - i = 0 by omega]; rfl
theorem stree_ok {l0 : List GNode} (hl : l0.length ≤ 1000) (hS : sS l0) : ∀ (d fu : Nat) (a : UInt8) (l : List GNode), d < fu → d ≤ 16 → l <:+ l0 → m_shape_tree fu l a ((16 - d : Nat) : Int) = some (stre d a l)
  | d, 0, a, l, h, _, _ => by omega
  | d, fu + 1, a, [], h, hd, hs => by
    unfold m_shape_tree
    cases d <;> rfl
  | 0, fu + 1, a, n :: r, h, hd, hs => by
    unfold m_shape_tree
    rw [decide_eq_false (by rw [List.length_cons]; omega), cond_false]; rfl
  | d + 1, fu + 1, a, n :: r, h, hd, hs => by
    unfold m_shape_tree
    have hn := hS n (hs.subset (by simp))
    have hlen := hs.length_le
    rw [List.length_cons] at hlen
    rw [decide_eq_false (by rw [List.length_cons]; omega), cond_false, decide_eq_false (by omega), cond_false, geti_0, obind_some, obind_some, obind_some, obind_some, stdB_ok, obind_some, stre]
    by_cases h1 : stdB n a = false
    · rw [if_pos h1, h1]; rfl
    rw [if_neg h1, show stdB n a = true by simpa using h1, Bool.not_true, cond_false, lacS_ok hn.2.2.1 hn.2.2.2, obind_some]
    by_cases h2 : lacS n = true
    · rw [if_pos h2, h2]; rfl
    rw [if_neg h2, show lacS n = false by simpa using h2, cond_false, morS_ok, obind_some]
    by_cases h3 : morS n = true
    · rw [if_pos h3, h3]; rfl
    have hc := cut_ok (l := n :: r) (a := 1) (b := (n :: r).length) (by simp) (Nat.le_refl _)
    rw [show cut (n :: r) 1 ((n :: r).length : Int) = _ from hc]
    rw [if_neg h3, show morS n = false by simpa using h3, cond_false, obind_some, skids_ok, obind_some]
    rw [show ((n :: r).drop 1).take ((n :: r).length - 1) = r by simp]
    exact sl6_ok (l0 := r) (by omega) (by omega) (fun l => stre_sub d n.Kind l) (fun l hs' => by
      rw [show ((16 - (d + 1) : Nat) : Int) + 1 = ((16 - d : Nat) : Int) by omega]
      exact stree_ok hl hS d fu n.Kind l (by omega) (by omega) (hs'.trans ((List.suffix_cons _ _).trans hs))) (kdN_le n) 1152921504606846976 0 r (by have := kdN_le n; omega) (Nat.zero_le _) (List.suffix_refl _)
/-! ### woods: a node, its kids, what is beside it -/
inductive SF where
  | nil
  | cons (n : GNode) (k r : SF)
def SF.flat : SF → List GNode
  | .nil => []
  | .cons n k r => n :: (k.flat ++ r.flat)
def SF.len : SF → Nat
  | .nil => 0
  | .cons n k r => r.len + 1
def SF.ok : SF → Nat → UInt8 → Prop
  | .nil, _, _ => True
  | .cons n k r, 0, _ => False
  | .cons n k r, d + 1, a => stdB n a = true ∧ lacS n = false ∧ morS n = false ∧ kdN n = k.len ∧ k.ok d n.Kind ∧ r.ok (d + 1) a
theorem of_itF {f : List GNode → List GNode × Int} {d : Nat} {a : UInt8} (h : ∀ l r, f l = (r, 0) → ∃ t : SF, t.len = 1 ∧ l = t.flat ++ r ∧ t.ok d a) : ∀ (k : Nat) (l r : List GNode), itF f k l = (r, 0) → ∃ t : SF, t.len = k ∧ l = t.flat ++ r ∧ t.ok d a
  | 0, l, r, e => ⟨.nil, rfl, (Prod.mk.inj e).1, trivial⟩
  | k + 1, l, r, e => by
    unfold itF at e
    by_cases q : (f l).2 = 0
    · rw [if_neg (by simp [q])] at e
      obtain ⟨t, h1, h2, h3⟩ := h l (f l).1 (by rw [← q])
      obtain ⟨u, g1, g2, g3⟩ := of_itF h k _ _ e
      match t, h1, h2, h3 with
      | .cons n kk .nil, h1, h2, h3 =>
        refine ⟨.cons n kk u, by simp [SF.len, g1], ?_, ?_⟩
        · rw [h2, g2]; simp [SF.flat]
        · cases d with
          | zero => exact h3.elim
          | succ d => exact ⟨h3.1, h3.2.1, h3.2.2.1, h3.2.2.2.1, h3.2.2.2.2.1, g3⟩
      | .nil, h1, h2, h3 => simp [SF.len] at h1
      | .cons n kk (.cons _ _ _), h1, h2, h3 => simp [SF.len] at h1
    · rw [if_pos q] at e
      exact absurd (Prod.mk.inj e).2 q
theorem of_stre : ∀ (d : Nat) (a : UInt8) (l r : List GNode), stre d a l = (r, 0) → ∃ t : SF, t.len = 1 ∧ l = t.flat ++ r ∧ t.ok d a
  | d, a, [], r, h => by cases d <;> simp [stre] at h
  | 0, a, n :: l, r, h => by simp [stre] at h
  | d + 1, a, n :: l, r, h => by
    unfold stre at h
    by_cases h1 : stdB n a = false
    · rw [if_pos h1] at h; simp at h
    rw [if_neg h1] at h
    by_cases h2 : lacS n = true
    · rw [if_pos h2] at h; simp at h
    rw [if_neg h2] at h
    by_cases h3 : morS n = true
    · rw [if_pos h3] at h; simp at h
    rw [if_neg h3] at h
    obtain ⟨k, g1, g2, g3⟩ := of_itF (of_stre d n.Kind) _ _ _ h
    exact ⟨.cons n k .nil, rfl, by rw [g2]; simp [SF.flat], by simpa using h1, by simpa using h2, by simpa using h3, g1.symm, g3, trivial⟩
theorem stre_of : ∀ (t : SF) (d : Nat) (a : UInt8) (r : List GNode), t.ok d a → itF (stre d a) t.len (t.flat ++ r) = (r, 0)
  | .nil, d, a, r, h => rfl
  | .cons n k s, 0, a, r, h => h.elim
  | .cons n k s, d + 1, a, r, h => by
    have e : stre (d + 1) a ((SF.cons n k s).flat ++ r) = (s.flat ++ r, 0) := by
      show stre (d + 1) a (n :: ((k.flat ++ s.flat) ++ r)) = _
      rw [stre, if_neg (by simp [h.1]), if_neg (by simp [h.2.1]), if_neg (by simp [h.2.2.1]), h.2.2.2.1, List.append_assoc]
      exact stre_of k d n.Kind _ h.2.2.2.2.1
    show itF _ (s.len + 1) _ = _
    rw [itF, e, if_neg (by simp)]
    exact stre_of s (d + 1) a r h.2.2.2.2.2
end Go.Proofs.Ytdpmojhejidhiaa.K
