/- Merged: Pptp Pppr Pstr Peq Ppva Ppaw. -/
import Derived.Test.YtkajfanpdabjcaaMpa
import Derived.Test.YtkajfanpdabjcaaLp
namespace Go.Proofs.Ytkajfanpdabjcaa.K
open Go.RowKit Go.Lib
set_option linter.unusedVariables false
set_option linter.unusedSimpArgs false
theorem l4_ok {l : List GNode_} (hl : l.length ≤ 1000) {p3 : Int} (h1 : 0 ≤ p3) (h2 : p3 ≤ 16) {n : GNode_} {K : List GNode_ → Int → Int → Int → Option (Int × Int)} {f : Nat → List GNode_ → Int × List GNode_}
    (ih : ∀ i z : Nat, z ≤ l.length → ∃ c, K l (z : Int) ((kidN (nK n) i + 1 : Nat) : Int) (p3 + 1) = some (c, (f i (l.drop z)).1) ∧ ((f i (l.drop z)).1 = 0 → ∃ y : Nat, c = (y : Int) ∧ y ≤ l.length ∧ l.drop y = (f i (l.drop z)).2))
    {z : Nat} (hz : z ≤ l.length) : ∃ c, m_telltaleref11_tree_l4 l p3 n K 1152921504606846976 (z : Int) 0 = some (c, (twoK (kidsN (nK n)) f (l.drop z)).1) ∧ ((twoK (kidsN (nK n)) f (l.drop z)).1 = 0 → ∃ y : Nat, c = (y : Int) ∧ y ≤ l.length ∧ l.drop y = (twoK (kidsN (nK n)) f (l.drop z)).2) := by
  have e1 : IntKind.i64.wrap (p3 + 1) = p3 + 1 := w64 (by omega) (by omega)
  have hk := kids_le (nK n)
  have ek : m_telltaleref11_Kids n.Kind = some (kidsN (nK n) : Int) := rkids_ok _
  have ekd : ∀ i : Nat, m_telltaleref11_kid n.Kind (i : Int) = some ((kidN (nK n) i + 1 : Nat) : Int) := fun i => rkid_ok _ i
  generalize hks : kidsN (nK n) = ks at hk ek ⊢
  have fin : ∀ (fu : Nat) (i z : Nat), ks ≤ i → m_telltaleref11_tree_l4 l p3 n K (fu + 1) (z : Int) (i : Int) = some ((z : Int), 0) := fun fu i z h => by
    unfold m_telltaleref11_tree_l4
    rw [ek, obind_some, decide_eq_false (by omega), cond_false]
  have stp : ∀ (fu : Nat) (i z : Nat) (c : Int), i < ks → K l (z : Int) ((kidN (nK n) i + 1 : Nat) : Int) (p3 + 1) = some (c, (f i (l.drop z)).1) →
      m_telltaleref11_tree_l4 l p3 n K (fu + 1) (z : Int) (i : Int) = if (f i (l.drop z)).1 ≠ 0 then some (c, (f i (l.drop z)).1) else m_telltaleref11_tree_l4 l p3 n K fu c ((i + 1 : Nat) : Int) := fun fu i z c h hc => by
    conv => lhs; unfold m_telltaleref11_tree_l4
    rw [ek, obind_some, decide_eq_true (by omega), cond_true, ekd, obind_some, e1, hc, obind_some]
    by_cases q : (f i (l.drop z)).1 = 0
    · rw [decide_eq_false (by simp [q]), cond_false, if_neg (by simp [q]), inc_ok (by omega)]
    · rw [decide_eq_true q, cond_true, if_pos q]
  unfold twoK
  by_cases k0 : ks = 0
  · rw [if_pos k0, show m_telltaleref11_tree_l4 l p3 n K 1152921504606846976 (z : Int) 0 = _ from fin 1152921504606846975 0 z (by omega)]
    exact ⟨_, rfl, fun _ => ⟨z, rfl, hz, rfl⟩⟩
  · rw [if_neg k0]
    obtain ⟨c, hc, hc2⟩ := ih 0 z hz
    rw [show m_telltaleref11_tree_l4 l p3 n K 1152921504606846976 (z : Int) 0 = _ from stp 1152921504606846975 0 z c (by omega) hc]
    by_cases q : (f 0 (l.drop z)).1 = 0
    · obtain ⟨y, rfl, hy, hd⟩ := hc2 q
      rw [if_neg (by simp [q]), if_neg (by simp [q])]
      by_cases k1 : ks = 1
      · rw [if_pos k1, fin 1152921504606846974 1 y (by omega), q]
        exact ⟨_, rfl, fun _ => ⟨y, rfl, hy, hd⟩⟩
      · obtain ⟨c', hc', hc2'⟩ := ih 1 y hy
        have h1k : 1 < ks := by clear hc hc2 hc' hc2' ih fin stp; omega
        rw [if_neg k1, stp 1152921504606846974 1 y c' h1k hc']
        rw [hd] at hc2' ⊢
        by_cases q' : (f 1 (f 0 (l.drop z)).2).1 = 0
        · obtain ⟨y', rfl, hy', hd'⟩ := hc2' q'
          rw [if_neg (by simp [q']), fin 1152921504606846973 2 y' hk, q']
          exact ⟨_, rfl, fun _ => ⟨y', rfl, hy', hd'⟩⟩
        · rw [if_pos q']
          exact ⟨_, rfl, fun h => absurd h q'⟩
    · rw [if_pos q, if_pos q]
      exact ⟨_, rfl, fun h => absurd h q⟩
theorem rtree_ok {l : List GNode_} (hl : nB l) : ∀ (d fu at_ wh : Nat), d < fu → d ≤ 16 → at_ ≤ l.length →
    ∃ c, m_telltaleref11_tree fu l (at_ : Int) ((wh + 1 : Nat) : Int) ((16 - d : Nat) : Int) = some (c, (tre d (l.drop at_) wh).1) ∧ ((tre d (l.drop at_) wh).1 = 0 → ∃ z : Nat, c = (z : Int) ∧ z ≤ l.length ∧ l.drop z = (tre d (l.drop at_) wh).2)
  | d, 0, at_, wh, h, _, _ => by omega
  | d, fu + 1, at_, wh, hf, hd, ha => by
    have hlen := hl.1
    unfold m_telltaleref11_tree
    by_cases hlt : at_ < l.length
    · rw [decide_eq_false (by omega), cond_false, geti_lt hlt, obind_some, drop_cons hlt]
      generalize hn : l[at_] = n
      have hbn : u64B n.Val.Bits := by rw [← hn]; exact hl.2 _ (List.getElem_mem hlt)
      cases d with
      | zero =>
        rw [decide_eq_true (by omega), cond_true]
        exact ⟨_, rfl, fun h => by simp [tre] at h⟩
      | succ d =>
        rw [decide_eq_false (by omega), cond_false, rmay_ok, obind_some, needs_ok hbn, obind_some, tre_two]
        by_cases h1 : mayN (nK n) wh = false
        · rw [if_pos h1, show mayN n.Kind.toNat wh = false from h1]; exact ⟨_, rfl, fun h => by simp at h⟩
        rw [if_neg h1]
        have h1' : mayN n.Kind.toNat wh = true := by simpa using h1
        rw [h1', Bool.not_true, cond_false]
        by_cases q : ndE n = 0
        · rw [decide_eq_false (by simp [q]), cond_false, if_neg (by simp [q]), inc_ok (by omega)]
          exact l4_ok hlen (by omega) (by omega) (fun i z hz => by
            have := rtree_ok hl d fu z (kidN (nK n) i) (by omega) (by omega) hz
            rw [show ((16 - (d + 1) : Nat) : Int) + 1 = ((16 - d : Nat) : Int) by omega]
            exact this) (by omega)
        · rw [decide_eq_true q, cond_true, if_pos q]
          exact ⟨_, rfl, fun h => absurd h q⟩
    · rw [decide_eq_true (by omega), cond_true, List.drop_of_length_le (by omega)]
      exact ⟨_, by cases d <;> rfl, fun h => by cases d <;> simp [tre] at h⟩
theorem rpcheck_ok {l : List GNode_} (hl : nB l) : m_telltaleref11_Check l = some (chkT l) := by
  have hlen := hl.1
  unfold m_telltaleref11_Check chkT
  by_cases h : 30 < l.length
  · rw [d_lt (by omega), if_pos h]; rfl
  rw [d_nlt (by omega), cond_false, if_neg h]
  by_cases h0 : l = []
  · subst h0; rfl
  · have : l.length ≠ 0 := fun e => h0 (List.eq_nil_of_length_eq_zero e)
    rw [decide_eq_false (by omega), cond_false, if_neg h0]
    obtain ⟨c, hc, hc2⟩ := rtree_ok hl 16 1152921504606846976 0 0 (by omega) (by omega) (Nat.zero_le _)
    rw [List.drop_zero] at hc hc2
    rw [show m_telltaleref11_tree 1152921504606846976 l 0 1 0 = some (c, (tre 16 l 0).1) from hc, obind_some]
    simp only
    by_cases q : (tre 16 l 0).1 = 0
    · obtain ⟨z, rfl, hz, hd⟩ := hc2 q
      rw [decide_eq_false (by simp [q]), cond_false, if_neg (by simp [q]), ← hd]
      by_cases hz2 : z < l.length
      · rw [d_lt (by omega), cond_true, if_neg (by rw [drop_cons hz2]; exact List.cons_ne_nil _ _)]
      · rw [d_nlt (by omega), cond_false, if_pos (List.drop_of_length_le (by omega))]
    · rw [decide_eq_true q, cond_true, if_pos q]
/-- What may be, is a tree. -/
theorem chkT_tree {l : List GNode_} (h : chkT l = 0) : l = [] ∨ ∃ t : PT, l = t.flat ∧ t.ok 16 0 ∧ l.length ≤ 30 := by
  unfold chkT at h
  by_cases h1 : 30 < l.length
  · rw [if_pos h1] at h; omega
  rw [if_neg h1] at h
  by_cases h0 : l = []
  · exact .inl h0
  rw [if_neg h0] at h
  by_cases q : (tre 16 l 0).1 = 0
  · rw [if_neg (by simp [q])] at h
    by_cases q2 : (tre 16 l 0).2 = []
    · obtain ⟨t, e, k⟩ := of_tre (d := 16) (wh := 0) (l := l) (r := []) (Prod.ext q q2)
      exact .inr ⟨t, by simpa using e, k, by omega⟩
    · rw [if_neg q2] at h; omega
  · rw [if_pos q] at h; exact absurd h q
theorem chkT_of {t : PT} (h : t.ok 16 0) (hl : t.flat.length ≤ 30) : chkT t.flat = 0 := by
  have := tre_of (r := []) h
  rw [List.append_nil] at this
  unfold chkT
  rw [if_neg (by omega), if_neg (by have := t.flat_pos; intro e; rw [e] at this; simp at this), this]
  rfl
/-! ### sizes -/
def scn : Nat → List GNode_ → Option Nat
  | _, [] => none
  | k, n :: r => if k + kidsN (nK n) = 1 then some 1 else (scn (k + kidsN (nK n) - 1) r).map (· + 1)
def sizN (l : List GNode_) (i : Int) : Int := if i < 0 ∨ (l.length : Int) ≤ i then 0 else (((scn 1 (l.drop i.toNat)).getD 0 : Nat) : Int)
theorem size_l {s : List GNode_} (hs : s.length ≤ 1000) : ∀ (fu i k : Nat), s.length - i < fu → i ≤ s.length → 1 ≤ k → k ≤ 1 + i → m_pred_Size_l2 s fu (k : Int) (i : Int) = some (((match scn k (s.drop i) with | none => 0 | some j => i + j : Nat)) : Int)
  | 0, i, k, h, _, _, _ => by omega
  | fu + 1, i, k, hf, hi, hk, hk2 => by
    unfold m_pred_Size_l2
    by_cases hlt : i < s.length
    · have hkd := kids_le (nK s[i])
      rw [decide_eq_true (by omega), cond_true, geti_lt hlt, obind_some, kids_ok, obind_some, drop_cons hlt, scn]
      have e : IntKind.i64.wrap ((k : Int) + IntKind.i64.wrap ((kidsN (nK s[i]) : Int) - 1)) = ((k + kidsN (nK s[i]) : Nat) : Int) - 1 := by
        rw [w64 (n := (kidsN (nK s[i]) : Int) - 1) (by omega) (by omega), w64 (by omega) (by omega)]; omega
      have e' : IntKind.i64.wrap ((k : Int) + IntKind.i64.wrap ((kidsN s[i].Kind.toNat : Int) - 1)) = ((k + kidsN (nK s[i]) : Nat) : Int) - 1 := e
      rw [e']
      by_cases h1 : k + kidsN (nK s[i]) = 1
      · rw [decide_eq_true (by omega), cond_true, if_pos h1, inc_ok (by omega)]
      · rw [decide_eq_false (by omega), cond_false, if_neg h1, inc_ok (by omega), show ((k + kidsN (nK s[i]) : Nat) : Int) - 1 = ((k + kidsN (nK s[i]) - 1 : Nat) : Int) by omega, size_l hs fu (i + 1) _ (by omega) (by omega) (by omega) (by omega)]
        cases scn (k + kidsN (nK s[i]) - 1) (s.drop (i + 1)) with
        | none => rfl
        | some j => simp only [Option.map_some]; congr 1; omega
    · rw [decide_eq_false (by omega), cond_false, List.drop_of_length_le (by omega), scn]; rfl
theorem psize_ok {l : List GNode_} (hl : l.length ≤ 1000) (i : Int) : m_pred_Size l i = some (sizN l i) := by
  unfold m_pred_Size sizN
  by_cases h0 : i < 0
  · rw [d_lt h0, cond_true, if_pos (.inl h0)]
  · rw [d_nlt h0, cond_false]
    by_cases h1 : (l.length : Int) ≤ i
    · rw [decide_eq_true h1, cond_true, if_pos (.inr h1)]
    · obtain ⟨j, rfl⟩ : ∃ j : Nat, i = (j : Int) := ⟨i.toNat, by omega⟩
      have hc := cut_ok (l := l) (a := j) (b := l.length) (by omega) (Nat.le_refl _)
      rw [List.take_of_length_le (by rw [List.length_drop]; omega)] at hc
      rw [decide_eq_false h1, cond_false, if_neg (by omega), hc, obind_some, Int.toNat_natCast]
      have := size_l (s := l.drop j) (by rw [List.length_drop]; omega) 1152921504606846976 0 1 (by rw [List.length_drop]; omega) (Nat.zero_le _) (by omega) (by omega)
      rw [show m_pred_Size_l2 (l.drop j) 1152921504606846976 1 0 = _ from this, List.drop_zero]
      cases scn 1 (l.drop j) <;> simp
theorem rsize_l {l : List GNode_} (hl : l.length ≤ 1000) (b : Nat) : ∀ (fu i k : Nat), l.length - i < fu → i ≤ l.length → b ≤ i → 1 ≤ k → k ≤ 1 + i → m_telltaleref11_Size_l1 l (b : Int) (fu + 1) (k : Int) (i : Int) = some (((match scn k (l.drop i) with | none => 0 | some j => i - b + j : Nat)) : Int)
  | 0, i, k, h, _, _, _, _ => by omega
  | fu + 1, i, k, hf, hi, hb, hk, hk2 => by
    conv => lhs; unfold m_telltaleref11_Size_l1
    rw [decide_eq_true (by omega), cond_true]
    by_cases hlt : i < l.length
    · have hkd := kids_le (nK l[i])
      rw [decide_eq_false (by omega), cond_false, geti_lt hlt, obind_some, rkids_ok, obind_some, drop_cons hlt, scn]
      have e' : IntKind.i64.wrap (IntKind.i64.wrap ((k : Int) - 1) + (kidsN l[i].Kind.toNat : Int)) = ((k + kidsN (nK l[i]) : Nat) : Int) - 1 := by
        show IntKind.i64.wrap (IntKind.i64.wrap ((k : Int) - 1) + (kidsN (nK l[i]) : Int)) = _
        rw [w64 (n := (k : Int) - 1) (by omega) (by omega), w64 (by omega) (by omega)]; omega
      rw [e', inc_ok (by omega)]
      by_cases h1 : k + kidsN (nK l[i]) = 1
      · rw [if_pos h1]
        unfold m_telltaleref11_Size_l1
        rw [decide_eq_false (by omega), cond_false, w64 (by omega) (by omega)]
        simp only; congr 1; omega
      · rw [if_neg h1, show ((k + kidsN (nK l[i]) : Nat) : Int) - 1 = ((k + kidsN (nK l[i]) - 1 : Nat) : Int) by omega, rsize_l hl b fu (i + 1) _ (by omega) (by omega) (by omega) (by omega) (by omega)]
        cases scn (k + kidsN (nK l[i]) - 1) (l.drop (i + 1)) with
        | none => rfl
        | some j => simp only [Option.map_some]; congr 1; omega
    · rw [decide_eq_true (by omega), cond_true, List.drop_of_length_le (by omega), scn]; rfl
theorem rpsize_ok {l : List GNode_} (hl : l.length ≤ 1000) (i : Int) : m_telltaleref11_Size l i = some (sizN l i) := by
  unfold m_telltaleref11_Size sizN
  by_cases h0 : i < 0
  · rw [d_lt h0, cond_true, if_pos (.inl h0)]
  · rw [d_nlt h0, cond_false]
    by_cases h1 : (l.length : Int) ≤ i
    · rw [decide_eq_true h1, cond_true, if_pos (.inr h1)]
    · obtain ⟨j, rfl⟩ : ∃ j : Nat, i = (j : Int) := ⟨i.toNat, by omega⟩
      rw [decide_eq_false h1, cond_false, if_neg (by omega), Int.toNat_natCast]
      have := rsize_l hl j 1152921504606846975 j 1 (by omega) (by omega) (Nat.le_refl _) (by omega) (by omega)
      rw [show m_telltaleref11_Size_l1 l (j : Int) 1152921504606846976 1 (j : Int) = _ from this]
      cases scn 1 (l.drop j) <;> simp
theorem scn_flat {t : PT} : ∀ {d wh k : Nat} {r : List GNode_}, t.ok d wh → scn (k + 1) (t.flat ++ r) = if k = 0 then some t.flat.length else (scn k r).map (· + t.flat.length) := by
  induction t with
  | leaf n =>
    intro d wh k r h
    cases d with
    | zero => exact h.elim
    | succ d =>
      show scn (k + 1) (n :: r) = _
      rw [scn, h.2.2]
      by_cases hk : k = 0
      · rw [if_pos (by omega), if_pos hk]; rfl
      · rw [if_neg (by omega), if_neg hk]; rfl
  | one n a ih =>
    intro d wh k r h
    cases d with
    | zero => exact h.elim
    | succ d =>
      show scn (k + 1) (n :: (a.flat ++ r)) = _
      rw [scn, h.2.2.1, if_neg (by omega), show k + 1 + 1 - 1 = k + 1 by omega, ih h.2.2.2]
      by_cases hk : k = 0
      · rw [if_pos hk, if_pos hk]; rfl
      · rw [if_neg hk, if_neg hk, Option.map_map]
        congr 1
  | two n a b iha ihb =>
    intro d wh k r h
    cases d with
    | zero => exact h.elim
    | succ d =>
      show scn (k + 1) (n :: ((a.flat ++ b.flat) ++ r)) = _
      rw [scn, h.2.2.1, if_neg (by omega), List.append_assoc, show k + 1 + 2 - 1 = (k + 1) + 1 by omega, iha h.2.2.2.1, if_neg (by omega), ihb h.2.2.2.2]
      by_cases hk : k = 0
      · rw [if_pos hk, if_pos hk]; simp [PT.flat]; omega
      · rw [if_neg hk, if_neg hk, Option.map_map, Option.map_map]
        congr 1
        funext x
        simp [PT.flat]; omega
end Go.Proofs.Ytkajfanpdabjcaa.K
namespace Go.Proofs.Ytkajfanpdabjcaa.K
open Go.RowKit Go.Lib
set_option linter.unusedVariables false
set_option linter.unusedSimpArgs false
def par (b : Bool) (s : List UInt8) : List UInt8 := if b = true then 40 :: (s ++ [41]) else s
def bndK (n : GNode_) : Int := if nK n = 2 then 1 else if nK n = 1 then 2 else 3
def wrdS (n : GNode_) : List UInt8 := if nK n = 2 then [111, 114] else if nK n = 1 then [97, 110, 100] else if nK n = 4 then signS n.Op else if nK n = 5 then [43] else [45]
def lefP (n : GNode_) : Int := if nK n = 2 then 1 else if nK n = 1 then 2 else 0
def rigP (n : GNode_) : Int := if nK n = 2 then 2 else if nK n = 1 then 3 else 0
def PT.str : PT → List UInt8
  | .leaf n => if nK n = 7 then n.Name else if nK n = 8 then n.Var ++ [46] ++ n.Name else litS n.Val
  | .one n a => [110, 111, 116, 32] ++ par (decide (bndK a.nd < 3)) a.str
  | .two n a b => par (decide (bndK a.nd < lefP n)) a.str ++ [32] ++ wrdS n ++ [32] ++ par (decide (bndK b.nd < rigP n)) b.str
theorem par_len (b : Bool) (s : List UInt8) : (par b s).length ≤ s.length + 2 := by unfold par; split <;> simp
theorem sign_len (o : UInt8) : (signS o).length ≤ 2 := by unfold signS; split <;> simp
theorem wrd_len (n : GNode_) : (wrdS n).length ≤ 3 := by
  have := sign_len n.Op
  unfold wrdS; split <;> (try split) <;> (try split) <;> (try split) <;> simp <;> omega
/-- What a statement takes of nodes. -/
def nS (l : List GNode_) : Prop := ∀ n ∈ l, u64B n.Val.Bits ∧ n.Name.length ≤ 40 ∧ n.Var.length ≤ 40
theorem str_len : ∀ {t : PT}, nS t.flat → t.str.length ≤ 110 * t.flat.length
  | .leaf n, h => by
    have := h n (by simp [PT.flat])
    have := lit_len n.Val
    unfold PT.str PT.flat
    split
    · simp; omega
    · split
      · simp; omega
      · simp; omega
  | .one n a, h => by
    have := str_len (t := a) (fun m hm => h m (by simp [PT.flat, hm]))
    have := par_len (decide (bndK a.nd < 3)) a.str
    unfold PT.str PT.flat
    simp; omega
  | .two n a b, h => by
    have := str_len (t := a) (fun m hm => h m (by simp [PT.flat, hm]))
    have := str_len (t := b) (fun m hm => h m (by simp [PT.flat, hm]))
    have := par_len (decide (bndK a.nd < lefP n)) a.str
    have := par_len (decide (bndK b.nd < rigP n)) b.str
    have := wrd_len n
    unfold PT.str PT.flat
    simp; omega
theorem geti_at {α : Type} {l r : List α} {n : α} {a : Nat} (h : l.drop a = n :: r) : geti l (a : Int) = some n := by
  have hl : a < l.length := by
    have := congrArg List.length h
    rw [List.length_drop, List.length_cons] at this; omega
  rw [geti_lt hl]
  rw [List.drop_eq_getElem_cons hl] at h
  rw [(List.cons.inj h).1]
theorem drop_at {α : Type} {l s r : List α} {a : Nat} (h : l.drop a = s ++ r) : l.drop (a + s.length) = r := by
  rw [← List.drop_drop, h]; simp
theorem bound_ok (n : GNode_) : m_pred_bound n.Kind = some (bndK n) := by
  unfold m_pred_bound bndK nK
  by_cases h : n.Kind.toNat = 2
  · rw [decide_eq_true (by omega), cond_true, if_pos h]
  · rw [decide_eq_false (by omega), cond_false, if_neg h]
    by_cases h : n.Kind.toNat = 1
    · rw [decide_eq_true (by omega), cond_true, if_pos h]
    · rw [decide_eq_false (by omega), cond_false, if_neg h]
theorem within_ok {rec : GTchecker → Option ((List UInt8) × GTchecker)} {l : List GNode_} {at_ p : Int} {n : GNode_} {s : List UInt8} {c : GTchecker} (hg : geti l at_ = some n) (hr : rec (GTchecker.mk l at_) = some (s, c)) (hs : s.length ≤ 100000) :
    m_pred_printer_within rec (GTchecker.mk l at_) p = some (par (decide (bndK n < p)) s, c) := by
  unfold m_pred_printer_within
  simp only
  rw [hg, obind_some, bound_ok, obind_some, hr]
  simp only [obind_some]
  cases decide (bndK n < p) with
  | false => rfl
  | true =>
    rw [cond_true, app_ok (by simp; omega), obind_some, app_ok (by simp; omega), obind_some]
    rfl
theorem two_ok {rec : GTchecker → Option ((List UInt8) × GTchecker)} {l : List GNode_} {a b p q : Int} {n m : GNode_} {s t w : List UInt8} {c : GTchecker} (hg : geti l a = some n) (hr : rec (GTchecker.mk l a) = some (s, GTchecker.mk l b)) (hs : s.length ≤ 100000)
    (hg2 : geti l b = some m) (hr2 : rec (GTchecker.mk l b) = some (t, c)) (ht : t.length ≤ 100000) (hw : w.length ≤ 10) :
    m_pred_printer_two rec (GTchecker.mk l a) w p q = some (par (decide (bndK n < p)) s ++ [32] ++ w ++ [32] ++ par (decide (bndK m < q)) t, c) := by
  unfold m_pred_printer_two
  have h1 := par_len (decide (bndK n < p)) s
  have h2 := par_len (decide (bndK m < q)) t
  rw [within_ok hg hr hs, obind_some]
  simp only
  rw [app_ok (by simp; omega), obind_some, app_ok (by simp; omega), obind_some, app_ok (by simp; omega), obind_some, within_ok hg2 hr2 ht, obind_some]
  simp only
  rw [app_ok (by simp; omega), obind_some]
theorem kids_one {k : Nat} (h : kidsN k = 1) : k = 3 := by unfold kidsN at h; split at h <;> (try split at h) <;> omega
theorem kids_two {k : Nat} (h : kidsN k = 2) : k = 1 ∨ k = 2 ∨ k = 4 ∨ k = 5 ∨ k = 6 := by unfold kidsN at h; split at h <;> (try split at h) <;> omega
theorem kids_no {k wh : Nat} (h : kidsN k = 0) (hm : mayN k wh = true) : k = 7 ∨ k = 8 ∨ k = 9 := by
  unfold kidsN at h; unfold mayN at hm
  split at h
  · omega
  · split at h
    · omega
    · split at hm
      · have := of_decide_eq_true hm; omega
      · split at hm
        · have := of_decide_eq_true hm; omega
        · have := of_decide_eq_true hm; omega
theorem nS_sub {l t r : List GNode_} {a : Nat} (h : nS l) (e : l.drop a = t ++ r) : nS t := fun n hn => h n (List.mem_of_mem_drop (i := a) (by rw [e]; simp [hn]))
theorem flat_le {l t r : List GNode_} {a : Nat} (e : l.drop a = t ++ r) : a + t.length ≤ l.length ∨ t = [] := by
  have := congrArg List.length e
  rw [List.length_drop, List.length_append] at this
  by_cases h : t.length = 0
  · exact .inr (List.eq_nil_of_length_eq_zero h)
  · exact .inl (by omega)
theorem ptext_ok {l : List GNode_} (hl : l.length ≤ 100) (hS : nS l) : ∀ {t : PT} {d wh a fu : Nat} {r : List GNode_}, t.ok d wh → l.drop a = t.flat ++ r → t.flat.length < fu →
    m_pred_printer_tree fu (GTchecker.mk l (a : Int)) = some (t.str, GTchecker.mk l ((a + t.flat.length : Nat) : Int)) := by
  intro t
  induction t with
  | leaf n =>
    intro d wh a fu r h e hf
    cases fu with
    | zero => omega
    | succ fu =>
    cases d with
    | zero => exact h.elim
    | succ d =>
    have hn := nS_sub hS e n (by simp [PT.flat])
    have ha : a < l.length := by have := congrArg List.length e; simp [PT.flat] at this; omega
    unfold m_pred_printer_tree
    simp only
    rw [geti_at (show l.drop a = n :: r from e), obind_some, inc_ok (by omega)]
    have hk := kids_no h.2.2 h.1
    have hk' : nK n = n.Kind.toNat := rfl
    unfold PT.str PT.flat
    rcases hk with k | k | k <;> rw [hk'] at k
    · rw [k, hk', k]; rfl
    · rw [k, hk', k]
      rw [app_ok (by simp; omega)]
      simp only [obind_some]
      rw [app_ok (by simp; omega)]
      rfl
    · rw [k, hk', k, lit_ok hn.1]
      rfl
  | one n x ih =>
    intro d wh a fu r h e hf
    cases fu with
    | zero => omega
    | succ fu =>
    cases d with
    | zero => exact h.elim
    | succ d =>
    have ha : a < l.length := by have := congrArg List.length e; simp [PT.flat] at this; omega
    have e1 : l.drop (a + 1) = x.flat ++ r := drop_at (s := [n]) e
    have sx := str_len (nS_sub hS e1)
    have lx : x.flat.length ≤ 100 := by have := congrArg List.length e1; simp at this; omega
    obtain ⟨rx, hx⟩ := x.flat_cons
    unfold m_pred_printer_tree
    simp only
    rw [geti_at (show l.drop a = n :: (x.flat ++ r) from e), obind_some, inc_ok (by omega)]
    have hk := kids_one h.2.2.1
    have hk' : nK n = n.Kind.toNat := rfl
    rw [hk'] at hk
    rw [hk]
    have := within_ok (rec := fun p0 => m_pred_printer_tree fu p0) (p := 3) (geti_at (l := l) (a := a + 1) (by rw [e1, hx]; rfl)) (ih h.2.2.2 e1 (by simp [PT.flat] at hf; omega)) (by omega)
    rw [this]
    have hp := par_len (decide (bndK x.nd < 3)) x.str
    show (Option.bind (app ([110, 111, 116, 32] : List UInt8) (par (decide (bndK x.nd < 3)) x.str)) fun t35_3 => some (t35_3, GTchecker.mk l ((a + 1 + x.flat.length : Nat) : Int))) = _
    rw [app_ok (by simp; omega), obind_some]
    show some (([110, 111, 116, 32] : List UInt8) ++ par (decide (bndK x.nd < 3)) x.str, GTchecker.mk l _) = some (([110, 111, 116, 32] : List UInt8) ++ par (decide (bndK x.nd < 3)) x.str, GTchecker.mk l ((a + (n :: x.flat).length : Nat) : Int))
    rw [List.length_cons, show a + 1 + x.flat.length = a + (x.flat.length + 1) by omega]
  | two n x y ihx ihy =>
    intro d wh a fu r h e hf
    cases fu with
    | zero => omega
    | succ fu =>
    cases d with
    | zero => exact h.elim
    | succ d =>
    have ha : a < l.length := by have := congrArg List.length e; simp [PT.flat] at this; omega
    have e1 : l.drop (a + 1) = x.flat ++ (y.flat ++ r) := by rw [← List.append_assoc]; exact drop_at (s := [n]) e
    have e2 : l.drop (a + 1 + x.flat.length) = y.flat ++ r := drop_at e1
    have sx := str_len (nS_sub hS e1)
    have lx : x.flat.length ≤ 100 := by have := congrArg List.length e1; simp at this; omega
    have sy := str_len (nS_sub hS e2)
    have ly : y.flat.length ≤ 100 := by have := congrArg List.length e2; simp at this; omega
    obtain ⟨rx, hx⟩ := x.flat_cons
    obtain ⟨ry, hy⟩ := y.flat_cons
    unfold m_pred_printer_tree
    simp only
    rw [geti_at (show l.drop a = n :: ((x.flat ++ y.flat) ++ r) from e), obind_some, inc_ok (by omega)]
    have hk := kids_two h.2.2.1
    have hk' : nK n = n.Kind.toNat := rfl
    rw [hk'] at hk
    have gx := geti_at (l := l) (a := a + 1) (n := x.nd) (r := rx ++ (y.flat ++ r)) (by rw [e1, hx]; rfl)
    have gy := geti_at (l := l) (a := a + 1 + x.flat.length) (n := y.nd) (r := ry ++ r) (by rw [e2, hy]; rfl)
    have rx' := ihx (fu := fu) h.2.2.2.1 e1 (by simp [PT.flat] at hf; omega)
    have ry' := ihy (fu := fu) h.2.2.2.2 e2 (by simp [PT.flat] at hf; omega)
    have hT := fun w (hw : w.length ≤ 10) p q => two_ok (rec := fun p0 => m_pred_printer_tree fu p0) (p := p) (q := q) (w := w) gx rx' (by omega) gy ry' (by omega) hw
    have el : a + 1 + x.flat.length + y.flat.length = a + (PT.two n x y).flat.length := by simp [PT.flat]; omega
    rw [el] at hT
    rw [show (PT.two n x y).str = par (decide (bndK x.nd < lefP n)) x.str ++ [32] ++ wrdS n ++ [32] ++ par (decide (bndK y.nd < rigP n)) y.str from rfl]
    unfold wrdS lefP rigP
    rcases hk with k | k | k | k | k
    · rw [hT [97, 110, 100] (by simp) 2 3, k, hk', k]; rfl
    · rw [hT [111, 114] (by simp) 1 2, k, hk', k]; rfl
    · rw [k, hk', k, sign_ok, obind_some, hT (signS n.Op) (by have := sign_len n.Op; omega) 0 0]; rfl
    · rw [k, hk', k, hT [43] (by simp) 0 0]; rfl
    · rw [k, hk', k, hT [45] (by simp) 0 0]; rfl
theorem rsign_ok (o : UInt8) : m_telltaleref05_Sign o = some (signS o) := by
  unfold m_telltaleref05_Sign signS
  generalize o.toNat = n
  match n with
  | 0 => rfl
  | 1 => rfl
  | 2 => rfl
  | 3 => rfl
  | 4 => rfl
  | 5 => rfl
  | 6 => rfl
  | n + 7 => rw [decide_eq_true (by omega)]; rfl
theorem about_ok {s : List UInt8} (b : Bool) (hs : s.length ≤ 100000) : m_telltaleref11_about s b = some (par b s) := by
  unfold m_telltaleref11_about
  cases b with
  | false => rfl
  | true => rw [cond_true, app_ok (by simp; omega), obind_some, app_ok (by simp; omega)]; rfl
theorem rtext_ok {l : List GNode_} (hl : l.length ≤ 100) (hS : nS l) : ∀ {t : PT} {d wh a fu : Nat} {r : List GNode_}, t.ok d wh → l.drop a = t.flat ++ r → t.flat.length < fu →
    m_telltaleref11_text fu l (a : Int) = some (t.str, ((a + t.flat.length : Nat) : Int)) := by
  intro t
  induction t with
  | leaf n =>
    intro d wh a fu r h e hf
    cases fu with
    | zero => omega
    | succ fu =>
    cases d with
    | zero => exact h.elim
    | succ d =>
    have hn := nS_sub hS e n (by simp [PT.flat])
    have ha : a < l.length := by have := congrArg List.length e; simp [PT.flat] at this; omega
    unfold m_telltaleref11_text
    rw [geti_at (show l.drop a = n :: r from e), obind_some, inc_ok (by omega)]
    have hk := kids_no h.2.2 h.1
    have hk' : nK n = n.Kind.toNat := rfl
    unfold PT.str PT.flat
    rcases hk with k | k | k <;> rw [hk'] at k
    · rw [k, hk', k]; rfl
    · rw [k, hk', k]
      rw [app_ok (by simp; omega)]
      simp only [obind_some]
      rw [app_ok (by simp; omega)]
      rfl
    · rw [k, hk', k, rlit_ok hn.1]
      rfl
  | one n x ih =>
    intro d wh a fu r h e hf
    cases fu with
    | zero => omega
    | succ fu =>
    cases d with
    | zero => exact h.elim
    | succ d =>
    have ha : a < l.length := by have := congrArg List.length e; simp [PT.flat] at this; omega
    have e1 : l.drop (a + 1) = x.flat ++ r := drop_at (s := [n]) e
    have sx := str_len (nS_sub hS e1)
    have lx : x.flat.length ≤ 100 := by have := congrArg List.length e1; simp at this; omega
    obtain ⟨rx, hx⟩ := x.flat_cons
    unfold m_telltaleref11_text
    rw [geti_at (show l.drop a = n :: (x.flat ++ r) from e), obind_some, inc_ok (by omega)]
    have hk := kids_one h.2.2.1
    have hk' : nK n = n.Kind.toNat := rfl
    rw [hk'] at hk
    rw [hk, geti_at (l := l) (a := a + 1) (by rw [e1, hx]; rfl), ih h.2.2.2 e1 (by simp [PT.flat] at hf; omega)]
    have hp := par_len (decide (bndK x.nd < 3)) x.str
    show _ = some (([110, 111, 116, 32] : List UInt8) ++ par (decide (bndK x.nd < 3)) x.str, ((a + (n :: x.flat).length : Nat) : Int))
    rw [List.length_cons, ← show a + 1 + x.flat.length = a + (x.flat.length + 1) by omega]
    simp only [obind_some]
    rw [about_ok _ (by omega), about_ok _ (by omega)]
    simp only [obind_some]
    have hx' : nK x.nd = x.nd.Kind.toNat := rfl
    have hb : par (decide (bndK x.nd < 3)) x.str = par (decide (x.nd.Kind.toNat = 1) || decide (x.nd.Kind.toNat = 2)) x.str := by
      congr 1
      unfold bndK; rw [hx']
      by_cases h2 : x.nd.Kind.toNat = 2
      · rw [if_pos h2, h2]; rfl
      · by_cases h1 : x.nd.Kind.toNat = 1
        · rw [if_neg h2, if_pos h1, h1]; rfl
        · rw [if_neg h2, if_neg h1, decide_eq_false h1, decide_eq_false h2]; rfl
    rw [hb]
    have px : ∀ b, (par b x.str).length ≤ 20000 := fun b => by have := par_len b x.str; omega
    by_cases h1 : x.nd.Kind.toNat = 1
    · rw [h1]
      rw [app_ok (l := [110, 111, 116, 32]) (r := par true x.str) (by have := px true; simp only [List.length_cons, List.length_nil]; omega)]; rfl
    · rw [decide_eq_false h1]
      rw [decide_eq_false (p := ((x.nd.Kind.toNat : Nat) : Int) = 1) (by omega), show decide (((x.nd.Kind.toNat : Nat) : Int) = 2) = decide (x.nd.Kind.toNat = 2) from decide_eq_decide.2 (by omega)]
      rw [app_ok (l := [110, 111, 116, 32]) (r := par (decide (x.nd.Kind.toNat = 2)) x.str) (by have := px (decide (x.nd.Kind.toNat = 2)); simp only [List.length_cons, List.length_nil]; omega)]; rfl
  | two n x y ihx ihy =>
    intro d wh a fu r h e hf
    cases fu with
    | zero => omega
    | succ fu =>
    cases d with
    | zero => exact h.elim
    | succ d =>
    have ha : a < l.length := by have := congrArg List.length e; simp [PT.flat] at this; omega
    have e1 : l.drop (a + 1) = x.flat ++ (y.flat ++ r) := by rw [← List.append_assoc]; exact drop_at (s := [n]) e
    have e2 : l.drop (a + 1 + x.flat.length) = y.flat ++ r := drop_at e1
    have sx := str_len (nS_sub hS e1)
    have lx : x.flat.length ≤ 100 := by have := congrArg List.length e1; simp at this; omega
    have sy := str_len (nS_sub hS e2)
    have ly : y.flat.length ≤ 100 := by have := congrArg List.length e2; simp at this; omega
    obtain ⟨rx, hx⟩ := x.flat_cons
    obtain ⟨ry, hy⟩ := y.flat_cons
    unfold m_telltaleref11_text
    rw [geti_at (show l.drop a = n :: ((x.flat ++ y.flat) ++ r) from e), obind_some, inc_ok (by omega)]
    have hk := kids_two h.2.2.1
    have hk' : nK n = n.Kind.toNat := rfl
    rw [hk'] at hk
    have gx := geti_at (l := l) (a := a + 1) (n := x.nd) (r := rx ++ (y.flat ++ r)) (by rw [e1, hx]; rfl)
    have gy := geti_at (l := l) (a := a + 1 + x.flat.length) (n := y.nd) (r := ry ++ r) (by rw [e2, hy]; rfl)
    have rx' := ihx (fu := fu) h.2.2.2.1 e1 (by simp [PT.flat] at hf; omega)
    have ry' := ihy (fu := fu) h.2.2.2.2 e2 (by simp [PT.flat] at hf; omega)
    have el : a + 1 + x.flat.length + y.flat.length = a + (PT.two n x y).flat.length := by simp [PT.flat]; omega
    rw [el] at ry'
    rw [gx, rx']
    simp only [obind_some]
    rw [gy, ry']
    simp only [obind_some]
    rw [about_ok (decide (((x.nd.Kind.toNat : Nat) : Int) = 2)) (show x.str.length ≤ 100000 by omega), about_ok true (show y.str.length ≤ 100000 by omega), about_ok (decide (((y.nd.Kind.toNat : Nat) : Int) = 2)) (show y.str.length ≤ 100000 by omega)]
    simp only [obind_some]
    rw [show (PT.two n x y).str = par (decide (bndK x.nd < lefP n)) x.str ++ [32] ++ wrdS n ++ [32] ++ par (decide (bndK y.nd < rigP n)) y.str from rfl]
    have px : ∀ b, (par b x.str).length ≤ 20000 := fun b => by have := par_len b x.str; omega
    have py : ∀ b, (par b y.str).length ≤ 20000 := fun b => by have := par_len b y.str; omega
    have b0 : ∀ m : GNode_, decide (bndK m < 0) = false := fun m => decide_eq_false (by unfold bndK; split <;> (try split) <;> omega)
    have b1 : ∀ m : GNode_, decide (bndK m < 1) = false := fun m => decide_eq_false (by unfold bndK; split <;> (try split) <;> omega)
    have b2 : ∀ m : GNode_, decide (bndK m < 2) = decide (((m.Kind.toNat : Nat) : Int) = 2) := fun m => decide_eq_decide.2 (by
      have : nK m = m.Kind.toNat := rfl
      unfold bndK; split <;> (try split) <;> omega)
    have b3 : ∀ m : GNode_, decide (bndK m < 3) = (decide (((m.Kind.toNat : Nat) : Int) = 1) || decide (((m.Kind.toNat : Nat) : Int) = 2)) := fun m => by
      rw [← Bool.decide_or]
      exact decide_eq_decide.2 (by
        have : nK m = m.Kind.toNat := rfl
        unfold bndK; split <;> (try split) <;> omega)
    have nb : ∀ s : List UInt8, par false s = s := fun s => rfl
    have ls := sign_len n.Op
    unfold wrdS lefP rigP
    rcases hk with k | k | k | k | k
    · rw [k, hk', k]
      rw [show decide (bndK x.nd < if 1 = 2 then 1 else if 1 = 1 then 2 else 0) = decide (bndK x.nd < 2) from rfl, show decide (bndK y.nd < if 1 = 2 then 2 else if 1 = 1 then 3 else 0) = decide (bndK y.nd < 3) from rfl, b2, b3]
      rw [app_ok (l := par (decide (((x.nd.Kind.toNat : Nat) : Int) = 2)) x.str) (by have := px (decide (((x.nd.Kind.toNat : Nat) : Int) = 2)); simp; omega)]
      simp only [obind_some]
      by_cases h1 : ((y.nd.Kind.toNat : Nat) : Int) = 1
      · rw [decide_eq_true h1]
        rw [app_ok (r := par true y.str) (by have := px (decide (((x.nd.Kind.toNat : Nat) : Int) = 2)); have := py true; simp only [List.length_append, List.length_cons, List.length_nil]; omega)]
        simp
      · rw [decide_eq_false h1]
        rw [app_ok (r := par (decide (((y.nd.Kind.toNat : Nat) : Int) = 2)) y.str) (by have := px (decide (((x.nd.Kind.toNat : Nat) : Int) = 2)); have := py (decide (((y.nd.Kind.toNat : Nat) : Int) = 2)); simp only [List.length_append, List.length_cons, List.length_nil]; omega)]
        simp
    · rw [k, hk', k]
      rw [show decide (bndK x.nd < if 2 = 2 then 1 else if 2 = 1 then 2 else 0) = decide (bndK x.nd < 1) from rfl, show decide (bndK y.nd < if 2 = 2 then 2 else if 2 = 1 then 3 else 0) = decide (bndK y.nd < 2) from rfl, b1, b2, nb]
      rw [app_ok (l := x.str) (r := [32, 111, 114, 32]) (by simp; omega)]
      simp only [obind_some]
      rw [app_ok (r := par (decide (((y.nd.Kind.toNat : Nat) : Int) = 2)) y.str) (by have := py (decide (((y.nd.Kind.toNat : Nat) : Int) = 2)); simp only [List.length_append, List.length_cons, List.length_nil]; omega)]
      simp
    · rw [k, hk', k]
      rw [show decide (bndK x.nd < if 4 = 2 then 1 else if 4 = 1 then 2 else 0) = decide (bndK x.nd < 0) from rfl, show decide (bndK y.nd < if 4 = 2 then 2 else if 4 = 1 then 3 else 0) = decide (bndK y.nd < 0) from rfl, b0, b0, nb, nb, rsign_ok]
      rw [app_ok (l := x.str) (r := [32]) (by simp; omega)]
      simp only [obind_some]
      rw [app_ok (r := signS n.Op) (by simp; omega)]
      simp only [obind_some]
      rw [app_ok (l := x.str ++ [32] ++ signS n.Op) (by simp; omega)]
      simp only [obind_some]
      rw [app_ok (r := y.str) (by simp; omega)]
      simp
    · rw [k, hk', k]
      rw [show decide (bndK x.nd < if 5 = 2 then 1 else if 5 = 1 then 2 else 0) = decide (bndK x.nd < 0) from rfl, show decide (bndK y.nd < if 5 = 2 then 2 else if 5 = 1 then 3 else 0) = decide (bndK y.nd < 0) from rfl, b0, b0, nb, nb]
      rw [app_ok (l := x.str) (r := [32, 43, 32]) (by simp; omega)]
      simp only [obind_some]
      rw [app_ok (r := y.str) (by simp; omega)]
      simp
    · rw [k, hk', k]
      rw [show decide (bndK x.nd < if 6 = 2 then 1 else if 6 = 1 then 2 else 0) = decide (bndK x.nd < 0) from rfl, show decide (bndK y.nd < if 6 = 2 then 2 else if 6 = 1 then 3 else 0) = decide (bndK y.nd < 0) from rfl, b0, b0, nb, nb]
      rw [app_ok (l := x.str) (r := [32, 45, 32]) (by simp; omega)]
      simp only [obind_some]
      rw [app_ok (r := y.str) (by simp; omega)]
      simp
end Go.Proofs.Ytkajfanpdabjcaa.K
namespace Go.Proofs.Ytkajfanpdabjcaa.K
open Go.RowKit Go.Lib
set_option linter.unusedVariables false
set_option linter.unusedSimpArgs false
theorem u8_lt {a b : UInt8} : (a < b) ↔ a.toNat < b.toNat := UInt8.lt_iff_toNat_lt
theorem u8_eq {a b : UInt8} : a = b ↔ a.toNat = b.toNat := UInt8.toNat_inj.symm
theorem ltS_cons {a b : UInt8} {x y : List UInt8} : ltS (a :: x) (b :: y) = true ↔ a.toNat < b.toNat ∨ a.toNat = b.toNat ∧ ltS x y = true := by
  simp only [ltS, Op.bytesLess, Bool.or_eq_true, Bool.and_eq_true, decide_eq_true_eq, beq_iff_eq, u8_lt, u8_eq]
theorem ltS_nil {x : List UInt8} : ltS x [] = false := by cases x <;> rfl
theorem ltS_irr (x : List UInt8) : ¬ ltS x x = true := by
  induction x with
  | nil => simp [ltS_nil]
  | cons a x ih => rw [ltS_cons]; rintro (h | h) <;> simp_all
theorem ltS_asym {x y : List UInt8} (h : ltS x y = true) : ¬ ltS y x = true := by
  induction x generalizing y with
  | nil => simp [ltS_nil]
  | cons a x ih =>
    cases y with
    | nil => simp [ltS_nil] at h
    | cons b y =>
      rw [ltS_cons] at h ⊢
      rintro (k | k)
      · rcases h with h | h <;> omega
      · rcases h with h | h
        · omega
        · exact ih h.2 k.2
theorem ltS_tot {x y : List UInt8} : ltS x y = true ∨ x = y ∨ ltS y x = true := by
  induction x generalizing y with
  | nil => cases y <;> simp [ltS, Op.bytesLess]
  | cons a x ih =>
    cases y with
    | nil => exact .inr (.inr rfl)
    | cons b y =>
      rw [ltS_cons, ltS_cons]
      rcases Nat.lt_trichotomy a.toNat b.toNat with h | h | h
      · exact .inl (.inl h)
      · rcases ih (y := y) with k | k | k
        · exact .inl (.inr ⟨h, k⟩)
        · exact .inr (.inl (by rw [u8_eq.2 h, k]))
        · exact .inr (.inr (.inr ⟨h.symm, k⟩))
      · exact .inr (.inr (.inl h))
theorem ltS_trans {x y z : List UInt8} (h : ltS x y = true) (k : ltS y z = true) : ltS x z = true := by
  induction x generalizing y z with
  | nil =>
    cases z with
    | nil => rw [ltS_nil] at k; cases k
    | cons c z => rfl
  | cons a x ih =>
    cases y with
    | nil => rw [ltS_nil] at h; cases h
    | cons b y =>
      cases z with
      | nil => rw [ltS_nil] at k; cases k
      | cons c z =>
        rw [ltS_cons] at h k ⊢
        rcases h with h | h <;> rcases k with k | k
        · exact .inl (by omega)
        · exact .inl (by omega)
        · exact .inl (by omega)
        · exact .inr ⟨by omega, ih h.2 k.2⟩
theorem gtS_iff {x y : List UInt8} : gtS x y = ltS y x := by
  have h1 := ltS_tot (x := x) (y := y)
  have h2 := @ltS_asym x y
  have h3 := @ltS_asym y x
  by_cases e : x = y
  · subst e
    have := ltS_irr x
    simp [gtS, Bool.eq_false_iff.2 this]
  · unfold gtS
    rw [show (Op.bytesLess x y) = ltS x y from rfl]
    cases hx : ltS x y <;> cases hy : ltS y x <;> simp_all
end Go.Proofs.Ytkajfanpdabjcaa.K
namespace Go.Proofs.Ytkajfanpdabjcaa.K
open Go.RowKit Go.Lib
set_option linter.unusedVariables false
theorem eq_loop {α : Type} [DecidableEq α] {L : Nat → Int → Option Bool} {a b : List α} (hl : a.length = b.length) (hb : a.length ≤ 1000000000) (hend : ∀ fu, L (fu + 1) (a.length : Int) = some true)
    (hstep : ∀ (fu i : Nat) (h1 : i < a.length) (h2 : i < b.length), L (fu + 1) (i : Int) = if a[i] = b[i] then L fu ((i + 1 : Nat) : Int) else some false) : L 1152921504606846976 0 = some (decide (a = b)) := by
  have := loop1_0 (L := L) (n := a.length) (P := fun i o => o = some (decide (a.drop i = b.drop i))) (by omega)
    (fun fu => by
      rw [hend, List.drop_eq_nil_of_le (Nat.le_refl _), List.drop_eq_nil_of_le (by omega)]; rfl)
    (fun fu i hi ih => by
      rw [hstep fu i hi (by omega), drop_cons hi, drop_cons (l := b) (by omega)]
      by_cases h : a[i] = b[i]'(by omega)
      · rw [if_pos h, ih]
        congr 1
        exact decide_eq_decide.2 ⟨fun e => by rw [h, e], fun e => (List.cons.inj e).2⟩
      · rw [if_neg h]
        congr 1
        exact (decide_eq_false fun e => h (List.cons.inj e).1).symm)
  simpa using this
end Go.Proofs.Ytkajfanpdabjcaa.K
namespace Go.Proofs.Ytkajfanpdabjcaa.K
open Go.RowKit Go.Lib
set_option linter.unusedVariables false
set_option linter.unusedSimpArgs false
abbrev Txt := List UInt8
theorem lt_iff {x y : Txt} : ltS x y = true ↔ x < y := by
  induction x generalizing y with
  | nil =>
    cases y with
    | nil => rw [ltS_nil]; simp
    | cons b y => exact ⟨fun _ => List.nil_lt_cons b y, fun _ => rfl⟩
  | cons a x ih =>
    cases y with
    | nil => rw [ltS_nil]; simp
    | cons b y => rw [ltS_cons, List.cons_lt_cons_iff, ih, u8_lt, u8_eq]
theorem le_iff {x y : Txt} : x ≤ y ↔ ltS y x = false := by
  rw [← Bool.not_eq_true, lt_iff]; exact List.not_lt.symm
/-- Rising. -/
def Rises (l : List Txt) : Prop := l.Pairwise fun x y => ltS x y = true
theorem rises_eq : ∀ {l k : List Txt}, Rises l → Rises k → (∀ x, x ∈ l ↔ x ∈ k) → l = k
  | [], [], _, _, _ => rfl
  | [], y :: k, _, _, h => by have := (h y).2 (by simp); simp at this
  | x :: l, [], _, _, h => by have := (h x).1 (by simp); simp at this
  | x :: l, y :: k, hl, hk, h => by
    have hl := List.pairwise_cons.1 hl
    have hk := List.pairwise_cons.1 hk
    have e : x = y := by
      rcases List.mem_cons.1 ((h x).1 (by simp)) with e | hx
      · exact e
      · rcases List.mem_cons.1 ((h y).2 (by simp)) with e | hy
        · exact e.symm
        · exact absurd (hl.1 _ hy) (ltS_asym (hk.1 _ hx))
    subst e
    rw [rises_eq hl.2 hk.2 fun z => ?_]
    constructor
    · intro hz
      rcases List.mem_cons.1 ((h z).1 (by simp [hz])) with e | h'
      · subst e; exact absurd (hl.1 _ hz) (ltS_irr _)
      · exact h'
    · intro hz
      rcases List.mem_cons.1 ((h z).2 (by simp [hz])) with e | h'
      · subst e; exact absurd (hk.1 _ hz) (ltS_irr _)
      · exact h'
/-! ### one text into others -/
def insT (x : Txt) : List Txt → List Txt
  | [] => [x]
  | y :: r => if ltS y x = true then y :: insT x r else if y = x then y :: r else x :: y :: r
theorem mem_insT {x z : Txt} : ∀ {l : List Txt}, z ∈ insT x l ↔ z = x ∨ z ∈ l
  | [] => by simp [insT]
  | y :: r => by
    unfold insT
    by_cases h : ltS y x = true
    · rw [if_pos h, List.mem_cons, mem_insT, List.mem_cons]
      constructor
      · rintro (a | a | a)
        · exact .inr (.inl a)
        · exact .inl a
        · exact .inr (.inr a)
      · rintro (a | a | a)
        · exact .inr (.inl a)
        · exact .inl a
        · exact .inr (.inr a)
    · rw [if_neg h]
      by_cases e : y = x
      · rw [if_pos e, ← e]; simp
      · rw [if_neg e]; simp
theorem insT_rises {x : Txt} : ∀ {l : List Txt}, Rises l → Rises (insT x l)
  | [], _ => List.pairwise_singleton _ _
  | y :: r, h => by
    have h' := List.pairwise_cons.1 h
    unfold insT
    by_cases q : ltS y x = true
    · rw [if_pos q]
      refine List.pairwise_cons.2 ⟨fun z hz => ?_, insT_rises h'.2⟩
      rcases mem_insT.1 hz with rfl | hz
      · exact q
      · exact h'.1 z hz
    · rw [if_neg q]
      by_cases e : y = x
      · rw [if_pos e]; exact h
      · rw [if_neg e]
        have hx : ltS x y = true := by
          rcases ltS_tot (x := x) (y := y) with k | k | k
          · exact k
          · exact absurd k.symm e
          · exact absurd k q
        refine List.pairwise_cons.2 ⟨fun z hz => ?_, h⟩
        rcases List.mem_cons.1 hz with rfl | hz
        · exact hx
        · exact ltS_trans hx (h'.1 z hz)
theorem insT_len {x : Txt} : ∀ {l : List Txt}, (insT x l).length ≤ l.length + 1
  | [] => by simp [insT]
  | y :: r => by
    have := insT_len (x := x) (l := r)
    unfold insT; split
    · simp; omega
    · split <;> simp
theorem into_ok {l : List Txt} {x : Txt} (hl : l.length ≤ 1000000) : m_telltaleref11_Into l x = some (insT x l) := by
  unfold m_telltaleref11_Into
  have j7 : ∀ (i : Nat) (k : List Txt), i ≤ l.length → k.length ≤ i + 1 → m_telltaleref11_Into_j7 l (i : Int) k = some (k ++ l.drop i) := fun i k hi hk => by
    unfold m_telltaleref11_Into_j7
    rw [cut_ok hi (Nat.le_refl _), obind_some, List.take_of_length_le (by rw [List.length_drop]; omega), app_ok (by rw [List.length_drop]; omega)]
    rfl
  have j2 : ∀ (i : Nat), i ≤ l.length → m_telltaleref11_Into_j2 l x (i : Int) = some (l.take i ++ (if l[i]? = some x then l.drop i else x :: l.drop i)) := fun i hi => by
    unfold m_telltaleref11_Into_j2
    have hc := cut_ok (l := l) (a := 0) (b := i) (by omega) hi
    rw [List.drop_zero, Nat.sub_zero] at hc
    rw [show cut l 0 (i : Int) = _ from hc, obind_some, app_ok (by simp; omega), obind_some, List.nil_append]
    have ht : (l.take i).length = i := by rw [List.length_take]; omega
    by_cases q : i = l.length
    · rw [decide_eq_true (by omega), cond_true, app_ok (by simp; omega), obind_some, j7 i _ hi (by simp; omega), if_neg (by rw [q]; simp)]
      simp
    · have hlt : i < l.length := by omega
      rw [decide_eq_false (by omega), cond_false, geti_lt hlt, obind_some, List.getElem?_eq_getElem hlt]
      by_cases e : l[i] = x
      · rw [decide_eq_false (by simp [e]), cond_false, j7 i _ hi (by omega), if_pos (by rw [e])]
      · rw [decide_eq_true e, cond_true, app_ok (by simp; omega), obind_some, j7 i _ hi (by simp; omega), if_neg (fun h => e (Option.some.inj h))]
        simp
  have := loop1_0 (L := fun fu i => m_telltaleref11_Into_l0 l x fu i) (n := l.length) (P := fun i o => o = some (l.take i ++ insT x (l.drop i))) (by omega)
    (fun fu => by
      show m_telltaleref11_Into_l0 l x (fu + 1) _ = _
      unfold m_telltaleref11_Into_l0
      rw [d_nlt (by omega), cond_false, j2 _ (Nat.le_refl _), if_neg (by simp), List.drop_of_length_le (Nat.le_refl _)]
      rfl)
    (fun fu i hi ih => by
      show m_telltaleref11_Into_l0 l x (fu + 1) _ = _
      unfold m_telltaleref11_Into_l0
      rw [d_lt (by omega), cond_true, geti_lt hi, obind_some, inc_ok (by omega), drop_cons hi, insT]
      cases q : ltS l[i] x with
      | true =>
        rw [cond_true, if_pos rfl]
        rw [show m_telltaleref11_Into_l0 l x fu ((i + 1 : Nat) : Int) = _ from ih, take_snoc hi, List.append_assoc]
        rfl
      | false =>
        rw [cond_false, if_neg (by simp), j2 i (by omega), List.getElem?_eq_getElem hi, drop_cons hi]
        by_cases e : l[i] = x
        · rw [if_pos (by rw [e]), if_pos e]
        · rw [if_neg (fun h => e (Option.some.inj h)), if_neg e])
  simpa using this
/-! ### variables -/
def vars (l : List GNode_) : List Txt := (l.filter fun n => decide (nK n = 8)).map GNode_.Var
def vS (l : List GNode_) : List Txt := (vars l).foldl (fun s x => insT x s) []
theorem fold_mem {z : Txt} : ∀ {k s : List Txt}, z ∈ k.foldl (fun s x => insT x s) s ↔ z ∈ k ∨ z ∈ s
  | [], s => by simp
  | x :: k, s => by
    rw [List.foldl_cons, fold_mem, mem_insT, List.mem_cons]
    constructor
    · rintro (a | a | a)
      · exact .inl (.inr a)
      · exact .inl (.inl a)
      · exact .inr a
    · rintro ((a | a) | a)
      · exact .inr (.inl a)
      · exact .inl a
      · exact .inr (.inr a)
theorem fold_rises : ∀ {k s : List Txt}, Rises s → Rises (k.foldl (fun s x => insT x s) s)
  | [], s, h => h
  | x :: k, s, h => fold_rises (k := k) (insT_rises h)
theorem fold_len : ∀ {k s : List Txt}, (k.foldl (fun s x => insT x s) s).length ≤ k.length + s.length
  | [], s => by simp
  | x :: k, s => by
    have := fold_len (k := k) (s := insT x s)
    have := insT_len (x := x) (l := s)
    rw [List.foldl_cons, List.length_cons]; omega
theorem vS_rises (l : List GNode_) : Rises (vS l) := fold_rises List.Pairwise.nil
theorem mem_vS {l : List GNode_} {z : Txt} : z ∈ vS l ↔ z ∈ vars l := by unfold vS; rw [fold_mem]; simp
theorem vars_len (l : List GNode_) : (vars l).length ≤ l.length := by unfold vars; rw [List.length_map]; exact List.length_filter_le _ _
theorem vS_len (l : List GNode_) : (vS l).length ≤ l.length := by
  have := fold_len (k := vars l) (s := [])
  have := vars_len l
  unfold vS
  simp only [List.length_nil] at *; omega
theorem rvars_ok {l : List GNode_} (hl : l.length ≤ 1000) : m_telltaleref11_Vars l = some (vS l) := by
  unfold m_telltaleref11_Vars
  have := loopG_0 (L := fun fu s i => m_telltaleref11_Vars_l0 l fu s i) (n := l.length) (P := fun i s o => s.length ≤ i → o = some ((vars (l.drop i)).foldl (fun s x => insT x s) s)) (by omega)
    (fun fu s hs => by
      show m_telltaleref11_Vars_l0 l (fu + 1) s _ = _
      unfold m_telltaleref11_Vars_l0
      rw [d_nlt (by omega), cond_false, List.drop_of_length_le (Nat.le_refl _)]; rfl)
    (fun fu s i hi ih hs => by
      show m_telltaleref11_Vars_l0 l (fu + 1) s _ = _
      unfold m_telltaleref11_Vars_l0
      rw [d_lt (by omega), cond_true, geti_lt hi, obind_some, inc_ok (by omega), drop_cons hi]
      have hk : nK l[i] = l[i].Kind.toNat := rfl
      have h1 := insT_len (x := l[i].Var) (l := s)
      by_cases q : nK l[i] = 8
      · rw [decide_eq_true (by omega), cond_true, obind_some, into_ok (by omega), obind_some]
        rw [show m_telltaleref11_Vars_l0 l fu (insT l[i].Var s) ((i + 1 : Nat) : Int) = _ from ih (insT l[i].Var s) (by omega)]
        unfold vars
        rw [List.filter_cons, if_pos (by simp [q])]; rfl
      · rw [decide_eq_false (by omega), cond_false]
        rw [show m_telltaleref11_Vars_l0 l fu s ((i + 1 : Nat) : Int) = _ from ih s (by omega)]
        unfold vars
        rw [List.filter_cons, if_neg (by simp [q])]) [] (Nat.le_refl _)
  exact this
theorem comp_ok {d : Array Txt} (hd : ∀ i j, i ≤ j → j < d.size → ltS d[j]! d[i]! = false) : ∀ m, m ≤ d.size → Rises (Go.Lib.compactUpTo d m) ∧ ∀ x, x ∈ Go.Lib.compactUpTo d m ↔ ∃ j, j < m ∧ d[j]! = x
  | 0, _ => by simp [Go.Lib.compactUpTo, Rises]
  | m + 1, h => by
    obtain ⟨h1, h2⟩ := comp_ok hd m (by omega)
    rw [Go.Lib.compactUpTo_succ]
    by_cases k : Go.Lib.keeps d m = true
    · rw [if_pos k]
      have k' : m = 0 ∨ d[m]! ≠ d[m - 1]! := of_decide_eq_true k
      refine ⟨List.pairwise_append.2 ⟨h1, List.pairwise_singleton _ _, fun x hx y hy => ?_⟩, fun x => ?_⟩
      · obtain ⟨j, hj, rfl⟩ := (h2 x).1 hx
        rw [List.mem_singleton] at hy; subst hy
        have k'' : d[m]! ≠ d[m - 1]! := by rcases k' with k' | k'; (· omega); exact k'
        have a := hd j (m - 1) (by omega) (by omega)
        have b := hd (m - 1) m (by omega) (by omega)
        have c : ltS d[m - 1]! d[m]! = true := by
          rcases ltS_tot (x := d[m - 1]!) (y := d[m]!) with t | t | t
          · exact t
          · exact absurd t.symm k''
          · rw [t] at b; cases b
        rcases ltS_tot (x := d[j]!) (y := d[m - 1]!) with t | t | t
        · exact ltS_trans t c
        · rw [t]; exact c
        · rw [t] at a; cases a
      · rw [List.mem_append, h2, List.mem_singleton]
        constructor
        · rintro (⟨j, hj, e⟩ | e)
          · exact ⟨j, by omega, e⟩
          · exact ⟨m, by omega, e.symm⟩
        · rintro ⟨j, hj, e⟩
          by_cases q : j = m
          · subst q; exact .inr e.symm
          · exact .inl ⟨j, by omega, e⟩
    · rw [if_neg k, List.append_nil]
      have k' : ¬ (m = 0 ∨ d[m]! ≠ d[m - 1]!) := fun c => k (decide_eq_true c)
      refine ⟨h1, fun x => ?_⟩
      rw [h2]
      constructor
      · rintro ⟨j, hj, e⟩; exact ⟨j, by omega, e⟩
      · rintro ⟨j, hj, e⟩
        by_cases q : j = m
        · subst q
          have k2 : d[j]! = d[j - 1]! := Classical.byContradiction fun c => k' (.inr c)
          exact ⟨j - 1, by omega, by rw [← k2]; exact e⟩
        · exact ⟨j, by omega, e⟩
theorem sortS_len (l : List Txt) : (sortS l).length = l.length := by simp [sortS]
theorem comp_sort (l : List Txt) : Rises (Go.Lib.compact (sortS l)) ∧ ∀ x, x ∈ Go.Lib.compact (sortS l) ↔ x ∈ l := by
  have hp : (sortS l).Pairwise fun x y => decide (x ≤ y) = true := List.pairwise_mergeSort (le := fun x y => decide (x ≤ y))
    (fun a b c h1 h2 => decide_eq_true (List.le_trans (of_decide_eq_true h1) (of_decide_eq_true h2)))
    (fun a b => by
      have := List.le_total a b
      simpa using this) l
  have hg : ∀ j, j < (sortS l).length → (sortS l).toArray[j]! = (sortS l)[j]! := fun j hj => by simp
  have := comp_ok (d := (sortS l).toArray) (fun i j hij hj => by
    have hj' : j < (sortS l).length := by simpa using hj
    rw [hg j hj', hg i (by omega), getElem!_pos _ j hj', getElem!_pos _ i (by omega)]
    by_cases e : i = j
    · subst e; exact Bool.eq_false_iff.2 (ltS_irr _)
    · exact le_iff.1 (of_decide_eq_true (List.pairwise_iff_getElem.1 hp i j (by omega) hj' (by omega)))) (sortS l).length (by simp)
  refine ⟨this.1, fun x => (this.2 x).trans ?_⟩
  rw [show x ∈ l ↔ x ∈ sortS l from (List.mem_mergeSort).symm, List.mem_iff_getElem]
  constructor
  · rintro ⟨j, hj, e⟩
    rw [hg j hj, getElem!_pos _ j hj] at e
    exact ⟨j, hj, e⟩
  · rintro ⟨j, hj, e⟩
    exact ⟨j, hj, by rw [hg j hj, getElem!_pos _ j hj]; exact e⟩
theorem pvars_ok {l : List GNode_} (hl : l.length ≤ 1000) : m_pred_Vars l = some (vS l) := by
  unfold m_pred_Vars
  have := loopG_0 (L := fun fu s i => m_pred_Vars_l1 l fu s i) (n := l.length) (P := fun i s o => s.length ≤ i → o = some (Go.Lib.compact (sortS (s ++ vars (l.drop i))))) (by omega)
    (fun fu s hs => by
      show m_pred_Vars_l1 l (fu + 1) s _ = _
      unfold m_pred_Vars_l1
      rw [d_nlt (by omega), cond_false, List.drop_of_length_le (Nat.le_refl _)]
      unfold m_slices_Sort_string m_slices_Compact_string
      rw [chk_ok (by omega), obind_some, chk_ok (by rw [sortS_len]; omega), obind_some]
      simp [vars])
    (fun fu s i hi ih hs => by
      show m_pred_Vars_l1 l (fu + 1) s _ = _
      unfold m_pred_Vars_l1
      rw [d_lt (by omega), cond_true, geti_lt hi, obind_some, inc_ok (by omega), drop_cons hi]
      have hk : nK l[i] = l[i].Kind.toNat := rfl
      by_cases q : nK l[i] = 8
      · rw [decide_eq_true (by omega), cond_true, app_ok (by simp; omega), obind_some]
        rw [show m_pred_Vars_l1 l fu (s ++ [l[i].Var]) ((i + 1 : Nat) : Int) = _ from ih (s ++ [l[i].Var]) (by simp; omega)]
        unfold vars
        rw [List.filter_cons, if_pos (by simp [q])]; simp
      · rw [decide_eq_false (by omega), cond_false]
        rw [show m_pred_Vars_l1 l fu s ((i + 1 : Nat) : Int) = _ from ih s (by omega)]
        unfold vars
        rw [List.filter_cons, if_neg (by simp [q])]) [] (Nat.le_refl _)
  rw [List.drop_zero, List.nil_append] at this
  have cs := comp_sort (vars l)
  rw [show m_pred_Vars_l1 l 1152921504606846976 [] 0 = _ from this, rises_eq cs.1 (vS_rises l) fun x => (cs.2 x).trans mem_vS.symm]
/-! ### alike -/
theorem stexts_ok {a b : List Txt} (ha : a.length ≤ 1000000) (hb : b.length ≤ 1000000) : m_telltaleref11_SameTexts a b = some (decide (a = b)) := by
  unfold m_telltaleref11_SameTexts
  by_cases h : a.length = b.length
  · rw [decide_eq_false (by simp [h]), cond_false]
    exact eq_loop (L := fun fu i => m_telltaleref11_SameTexts_l1 a b fu i) h (by omega) (fun fu => by unfold m_telltaleref11_SameTexts_l1; rw [d_nlt (by omega)]; rfl)
      (fun fu i h1 h2 => by
        conv => lhs; unfold m_telltaleref11_SameTexts_l1
        rw [d_lt (by omega), cond_true, geti_lt h1, obind_some, geti_lt h2, obind_some, inc_ok (by omega)]
        by_cases e : a[i] = b[i]
        · rw [decide_eq_false (by simp [e]), cond_false, if_pos e]
        · rw [decide_eq_true e, cond_true, if_neg e])
  · rw [decide_eq_true (by omega), cond_true, decide_eq_false (fun e => h (by rw [e]))]
theorem u8i {a b : UInt8} : ((a.toNat : Nat) : Int) = ((b.toNat : Nat) : Int) ↔ a = b := ⟨fun h => UInt8.toNat_inj.1 (by omega), fun h => by rw [h]⟩
theorem node_eq (x y : GNode_) : (!(decide (((x.Kind.toNat : Nat) : Int) = ((y.Kind.toNat : Nat) : Int)) && (decide (((x.Op.toNat : Nat) : Int) = ((y.Op.toNat : Nat) : Int)) && (decide (x.Var = y.Var) && (decide (x.Name = y.Name) && ((decide (((x.Val.Kind.toNat : Nat) : Int) = ((y.Val.Kind.toNat : Nat) : Int)) && (decide (x.Val.N = y.Val.N) && (decide (x.Val.Bits = y.Val.Bits) && (decide (x.Val.Text = y.Val.Text) && true)))) && true)))))) = !decide (x = y) := by
  congr 1
  obtain ⟨a, b, c, d, ⟨e, f, g, h⟩⟩ := x
  obtain ⟨a', b', c', d', ⟨e', f', g', h'⟩⟩ := y
  simp only [u8i, Bool.and_true, GNode_.mk.injEq, GValue.mk.injEq, Bool.decide_and]
theorem psame_ok {a b : List GNode_} (ha : a.length ≤ 1000000) : m_pred_Same a b = some (decide (a = b)) := by
  unfold m_pred_Same m_slices_Equal_Node
  by_cases h : a.length = b.length
  · rw [decide_eq_false (by simp [h]), cond_false]
    have := eq_loop (L := fun fu i => m_slices_Equal_Node_l2 a b fu i) h (by omega) (fun fu => by unfold m_slices_Equal_Node_l2; rw [d_nlt (by omega)]; rfl)
      (fun fu i h1 h2 => by
        conv => lhs; unfold m_slices_Equal_Node_l2
        rw [d_lt (by omega), cond_true, geti_lt h1, obind_some, geti_lt h2, obind_some, inc_ok (by omega), obind_some, node_eq]
        by_cases e : a[i] = b[i]
        · rw [decide_eq_true e, if_pos e]; rfl
        · rw [decide_eq_false e, if_neg e]; rfl)
    rw [show m_slices_Equal_Node_l2 a b 1152921504606846976 0 = _ from this]; rfl
  · rw [decide_eq_true (by omega), cond_true, decide_eq_false (fun e => h (by rw [e]))]; rfl
theorem rsame_ok {a b : List GNode_} (ha : a.length ≤ 1000000) : m_telltaleref11_Same a b = some (decide (a = b)) := by
  unfold m_telltaleref11_Same
  by_cases h : a.length = b.length
  · rw [decide_eq_false (by simp [h]), cond_false]
    exact eq_loop (L := fun fu i => m_telltaleref11_Same_l1 a b fu i) h (by omega) (fun fu => by unfold m_telltaleref11_Same_l1; rw [d_nlt (by omega)]; rfl)
      (fun fu i h1 h2 => by
        conv => lhs; unfold m_telltaleref11_Same_l1
        rw [d_lt (by omega), cond_true, geti_lt h1, obind_some, geti_lt h2, obind_some, inc_ok (by omega), obind_some, node_eq]
        by_cases e : a[i] = b[i]
        · rw [decide_eq_true e, if_pos e]; rfl
        · rw [decide_eq_false e, if_neg e]; rfl)
  · rw [decide_eq_true (by omega), cond_true, decide_eq_false (fun e => h (by rw [e]))]
/-! ### what a statement takes -/
theorem own_ok {l : List GNode_} (hl : l.length ≤ 400000000) : m_telltalelaw11_Own l = some l := by
  have := map_loop (L := fun fu s i => m_telltalelaw11_Own_l0 l fu s i) (l := l) (f := id) (e := id) hl (fun fu s => by unfold m_telltalelaw11_Own_l0; rw [d_nlt (by omega)]; rfl)
    (fun fu s i h hs => by
      conv => lhs; unfold m_telltalelaw11_Own_l0
      rw [d_lt (by omega), cond_true, geti_lt h, obind_some, app_ok (by simp; omega), obind_some, inc_ok (by omega)]; rfl)
  rw [List.map_id] at this; exact this
theorem over_ok {l : List GNode_} (hw : ∀ n ∈ l, wf_GNode_ n) : ∃ r, m_telltalelaw11_Over l = some r ∧ (r = 1 ∨ r = 0 ∧ l.length ≤ 40 ∧ nS l) := by
  unfold m_telltalelaw11_Over
  by_cases h : 40 < l.length
  · rw [d_lt (by omega)]; exact ⟨1, rfl, .inl rfl⟩
  · rw [d_nlt (by omega), cond_false]
    have := loop1_0 (L := fun fu i => m_telltalelaw11_Over_l1 l fu i) (n := l.length) (P := fun i o => ∃ r, o = some r ∧ (r = 1 ∨ r = 0 ∧ nS (l.drop i))) (by omega)
      (fun fu => by unfold m_telltalelaw11_Over_l1; rw [d_nlt (by omega)]; exact ⟨0, rfl, .inr ⟨rfl, by simp [nS]⟩⟩)
      (fun fu i hi ih => by
        have hwi := hw l[i] (List.getElem_mem hi)
        unfold m_telltalelaw11_Over_l1
        rw [d_lt (by omega), cond_true, geti_lt hi, obind_some]
        by_cases h1 : 40 < l[i].Var.length
        · rw [d_lt (by omega)]; exact ⟨1, rfl, .inl rfl⟩
        rw [d_nlt (by omega), cond_false, obind_some]
        by_cases h2 : 40 < l[i].Name.length
        · rw [d_lt (by omega)]; exact ⟨1, rfl, .inl rfl⟩
        rw [d_nlt (by omega), cond_false, obind_some]
        unfold m_telltalelaw04_Small
        rw [obind_some]
        by_cases h3 : (0 : Int) < max 0 (IntKind.i64.wrap (((List.length l[i].Val.Text : Nat) : Int) - 100))
        · rw [d_lt h3]; exact ⟨1, rfl, .inl rfl⟩
        rw [d_nlt h3, cond_false, inc_ok (by omega)]
        obtain ⟨r, e, q⟩ := ih
        refine ⟨r, e, q.imp id fun ⟨q1, q2⟩ => ⟨q1, ?_⟩⟩
        rw [drop_cons hi]
        intro n hn
        rcases List.mem_cons.1 hn with rfl | hn
        · exact ⟨in_u64 hwi.Val.Bits, by omega, by omega⟩
        · exact q2 n hn)
    obtain ⟨r, e, q⟩ := this
    exact ⟨r, e, q.imp id fun q => ⟨q.1, by omega, by simpa using q.2⟩⟩
theorem nB_of {l : List GNode_} (h1 : l.length ≤ 40) (h2 : nS l) : nB l := ⟨by omega, fun n hn => (h2 n hn).1⟩
/-! ### texts -/
def prS (l : List GNode_) : Txt → Prop := fun s => (chkT l ≠ 0 ∧ s = []) ∨ (l = [] ∧ s = []) ∨ ∃ t : PT, l = t.flat ∧ t.ok 16 0 ∧ s = t.str
theorem print_ok {l : List GNode_} (hl : l.length ≤ 40) (hS : nS l) : ∃ s, m_pred_Print l = some s ∧ m_telltaleref11_Print l = some s ∧ prS l s := by
  unfold m_pred_Print m_telltaleref11_Print
  by_cases h0 : l = []
  · subst h0; exact ⟨[], rfl, rfl, .inr (.inl ⟨rfl, rfl⟩)⟩
  have : l.length ≠ 0 := fun e => h0 (List.eq_nil_of_length_eq_zero e)
  rw [decide_eq_false (by omega), cond_false, cond_false, pcheck_ok (nB_of hl hS), rpcheck_ok (nB_of hl hS), obind_some, obind_some]
  by_cases q : chkT l = 0
  · rw [decide_eq_false (by simp [q]), cond_false, cond_false]
    rcases chkT_tree q with e | ⟨t, e, ht, _⟩
    · exact absurd e h0
    · have hp := ptext_ok (l := l) (by omega) hS (t := t) (a := 0) (fu := 1152921504606846976) (r := []) ht (by simpa using e) (by rw [← e]; omega)
      have hr := rtext_ok (l := l) (by omega) hS (t := t) (a := 0) (fu := 1152921504606846976) (r := []) ht (by simpa using e) (by rw [← e]; omega)
      rw [show m_pred_printer_tree 1152921504606846976 (GTchecker.mk l 0) = _ from hp, show m_telltaleref11_text 1152921504606846976 l 0 = _ from hr]
      exact ⟨t.str, rfl, rfl, .inr (.inr ⟨t, e, ht, rfl⟩)⟩
  · rw [decide_eq_true q]
    exact ⟨[], rfl, rfl, .inl ⟨q, rfl⟩⟩
end Go.Proofs.Ytkajfanpdabjcaa.K
namespace Go.Proofs.Ytkajfanpdabjcaa.K
open Go.RowKit Go.Lib
set_option linter.unusedVariables false
set_option linter.unusedSimpArgs false
def exL : List GNode_ := [(GNode_.mk 1 0 ([] : List UInt8) ([] : List UInt8) (GValue.mk 0 0 0 ([] : List UInt8))), (GNode_.mk 4 6 ([] : List UInt8) ([] : List UInt8) (GValue.mk 0 0 0 ([] : List UInt8))), (GNode_.mk 7 0 ([] : List UInt8) ([110] : List UInt8) (GValue.mk 0 0 0 ([] : List UInt8))), (GNode_.mk 9 0 ([] : List UInt8) ([] : List UInt8) (GValue.mk 1 10 0 [])), (GNode_.mk 3 0 ([] : List UInt8) ([] : List UInt8) (GValue.mk 0 0 0 ([] : List UInt8))), (GNode_.mk 4 1 ([] : List UInt8) ([] : List UInt8) (GValue.mk 0 0 0 ([] : List UInt8))), (GNode_.mk 8 0 ([98] : List UInt8) ([107] : List UInt8) (GValue.mk 0 0 0 ([] : List UInt8))), (GNode_.mk 9 0 ([] : List UInt8) ([] : List UInt8) (GValue.mk 4 0 0 [120]))]
theorem ex_ok : m_telltalelaw11_example = some exL := by decide +kernel
theorem ex_vars : m_pred_Vars exL = some [[98]] := by
  rw [pvars_ok (by decide)]
  decide +kernel
theorem awake_ok : m_telltalelaw11_awake = some true := by
  unfold m_telltalelaw11_awake
  rw [ex_ok, obind_some, ex_vars, obind_some]
  decide +kernel
end Go.Proofs.Ytkajfanpdabjcaa.K
