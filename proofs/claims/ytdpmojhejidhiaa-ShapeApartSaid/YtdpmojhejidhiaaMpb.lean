/- Merged: Pptp Pppr Peq Ppsm. -/
import Derived.Test.YtdpmojhejidhiaaMpa
import Derived.Test.YtdpmojhejidhiaaLp
namespace Go.Proofs.Ytdpmojhejidhiaa.K
open Go.RowKit Go.Lib
set_option linter.unusedVariables false
set_option linter.unusedSimpArgs false
theorem l4_ok {l : List GNode_} (hl : l.length ≤ 1000) {p3 : Int} (h1 : 0 ≤ p3) (h2 : p3 ≤ 16) {n : GNode_} {K : List GNode_ → Int → Int → Int → Option (Int × Int)} {f : Nat → List GNode_ → Int × List GNode_}
    (ih : ∀ i z : Nat, z ≤ l.length → ∃ c, K l (z : Int) ((kidN (nK n) i + 1 : Nat) : Int) (p3 + 1) = some (c, (f i (l.drop z)).1) ∧ ((f i (l.drop z)).1 = 0 → ∃ y : Nat, c = (y : Int) ∧ y ≤ l.length ∧ l.drop y = (f i (l.drop z)).2))
    {z : Nat} (hz : z ≤ l.length) : ∃ c, m_telltaleref11_tree_l4 l p3 n K 1152921504606846976 (z : Int) 0 = some (c, (twoK (kidsN (nK n)) f (l.drop z)).1) ∧ ((twoK (kidsN (nK n)) f (l.drop z)).1 = 0 → ∃ y : Nat, c = (y : Int) ∧ y ≤ l.length ∧ l.drop y = (twoK (kidsN (nK n)) f (l.drop z)).2) := by
  have e1 : IntKind.i64.wrap (p3 + 1) = p3 + 1 := w64 (by omega) (by omega)
  have hk := kids_le (nK n)
  have ek : m_telltaleref11_Kids n.Kind = some (kidsN (nK n) : Int) := rkids_ok _
  have ekd : ∀ i : Nat, m_telltaleref11_kid n.Kind (i : Int) = some ((kidN (nK n) i + 1 : Nat) : Int) := fun i => rkid_ok _ i
  generalize hks : kidsN (nK n) = ks at hk ek ⊢
  have fin : ∀ (fu : Nat) (i z : Nat), ks ≤ i → m_telltaleref11_tree_l4 l p3 n K (fu + 1) (z : Int) (i : Int) = some ((z : Int), 0) := fun fu i z h => by
    unfold m_telltaleref11_tree_l4
    rw [ek, obind_some, decide_eq_false (by omega), cond_false]
  have stp : ∀ (fu : Nat) (i z : Nat) (c : Int), i < ks → K l (z : Int) ((kidN (nK n) i + 1 : Nat) : Int) (p3 + 1) = some (c, (f i (l.drop z)).1) →
      m_telltaleref11_tree_l4 l p3 n K (fu + 1) (z : Int) (i : Int) = if (f i (l.drop z)).1 ≠ 0 then some (c, (f i (l.drop z)).1) else m_telltaleref11_tree_l4 l p3 n K fu c ((i + 1 : Nat) : Int) := fun fu i z c h hc => by
    conv => lhs; unfold m_telltaleref11_tree_l4
    rw [ek, obind_some, decide_eq_true (by omega), cond_true, ekd, obind_some, e1, hc, obind_some]
    by_cases q : (f i (l.drop z)).1 = 0
    · rw [decide_eq_false (by simp [q]), cond_false, if_neg (by simp [q]), inc_ok (by omega)]
    · rw [decide_eq_true q, cond_true, if_pos q]
  unfold twoK
  by_cases k0 : ks = 0
  · rw [if_pos k0, show m_telltaleref11_tree_l4 l p3 n K 1152921504606846976 (z : Int) 0 = _ from fin 1152921504606846975 0 z (by omega)]
    exact ⟨_, rfl, fun _ => ⟨z, rfl, hz, rfl⟩⟩
  · rw [if_neg k0]
    obtain ⟨c, hc, hc2⟩ := ih 0 z hz
    rw [show m_telltaleref11_tree_l4 l p3 n K 1152921504606846976 (z : Int) 0 = _ from stp 1152921504606846975 0 z c (by omega) hc]
    by_cases q : (f 0 (l.drop z)).1 = 0
    · obtain ⟨y, rfl, hy, hd⟩ := hc2 q
      rw [if_neg (by simp [q]), if_neg (by simp [q])]
      by_cases k1 : ks = 1
      · rw [if_pos k1, fin 1152921504606846974 1 y (by omega), q]
        exact ⟨_, rfl, fun _ => ⟨y, rfl, hy, hd⟩⟩
      · obtain ⟨c', hc', hc2'⟩ := ih 1 y hy
        have h1k : 1 < ks := by clear hc hc2 hc' hc2' ih fin stp; omega
        rw [if_neg k1, stp 1152921504606846974 1 y c' h1k hc']
        rw [hd] at hc2' ⊢
        by_cases q' : (f 1 (f 0 (l.drop z)).2).1 = 0
        · obtain ⟨y', rfl, hy', hd'⟩ := hc2' q'
          rw [if_neg (by simp [q']), fin 1152921504606846973 2 y' hk, q']
          exact ⟨_, rfl, fun _ => ⟨y', rfl, hy', hd'⟩⟩
        · rw [if_pos q']
          exact ⟨_, rfl, fun h => absurd h q'⟩
    · rw [if_pos q, if_pos q]
      exact ⟨_, rfl, fun h => absurd h q⟩
theorem rtree_ok {l : List GNode_} (hl : nB l) : ∀ (d fu at_ wh : Nat), d < fu → d ≤ 16 → at_ ≤ l.length →
    ∃ c, m_telltaleref11_tree fu l (at_ : Int) ((wh + 1 : Nat) : Int) ((16 - d : Nat) : Int) = some (c, (tre d (l.drop at_) wh).1) ∧ ((tre d (l.drop at_) wh).1 = 0 → ∃ z : Nat, c = (z : Int) ∧ z ≤ l.length ∧ l.drop z = (tre d (l.drop at_) wh).2)
  | d, 0, at_, wh, h, _, _ => by omega
  | d, fu + 1, at_, wh, hf, hd, ha => by
    have hlen := hl.1
    unfold m_telltaleref11_tree
    by_cases hlt : at_ < l.length
    · rw [decide_eq_false (by omega), cond_false, geti_lt hlt, obind_some, drop_cons hlt]
      generalize hn : l[at_] = n
      have hbn : u64B n.Val.Bits := by rw [← hn]; exact hl.2 _ (List.getElem_mem hlt)
      cases d with
      | zero =>
        rw [decide_eq_true (by omega), cond_true]
        exact ⟨_, rfl, fun h => by simp [tre] at h⟩
      | succ d =>
        rw [decide_eq_false (by omega), cond_false, rmay_ok, obind_some, needs_ok hbn, obind_some, tre_two]
        by_cases h1 : mayN (nK n) wh = false
        · rw [if_pos h1, show mayN n.Kind.toNat wh = false from h1]; exact ⟨_, rfl, fun h => by simp at h⟩
        rw [if_neg h1]
        have h1' : mayN n.Kind.toNat wh = true := by simpa using h1
        rw [h1', Bool.not_true, cond_false]
        by_cases q : ndE n = 0
        · rw [decide_eq_false (by simp [q]), cond_false, if_neg (by simp [q]), inc_ok (by omega)]
          exact l4_ok hlen (by omega) (by omega) (fun i z hz => by
            have := rtree_ok hl d fu z (kidN (nK n) i) (by omega) (by omega) hz
            rw [show ((16 - (d + 1) : Nat) : Int) + 1 = ((16 - d : Nat) : Int) by omega]
            exact this) (by omega)
        · rw [decide_eq_true q, cond_true, if_pos q]
          exact ⟨_, rfl, fun h => absurd h q⟩
    · rw [decide_eq_true (by omega), cond_true, List.drop_of_length_le (by omega)]
      exact ⟨_, by cases d <;> rfl, fun h => by cases d <;> simp [tre] at h⟩
theorem rpcheck_ok {l : List GNode_} (hl : nB l) : m_telltaleref11_Check l = some (chkT l) := by
  have hlen := hl.1
  unfold m_telltaleref11_Check chkT
  by_cases h : 30 < l.length
  · rw [d_lt (by omega), if_pos h]; rfl
  rw [d_nlt (by omega), cond_false, if_neg h]
  by_cases h0 : l = []
  · subst h0; rfl
  · have : l.length ≠ 0 := fun e => h0 (List.eq_nil_of_length_eq_zero e)
    rw [decide_eq_false (by omega), cond_false, if_neg h0]
    obtain ⟨c, hc, hc2⟩ := rtree_ok hl 16 1152921504606846976 0 0 (by omega) (by omega) (Nat.zero_le _)
    rw [List.drop_zero] at hc hc2
    rw [show m_telltaleref11_tree 1152921504606846976 l 0 1 0 = some (c, (tre 16 l 0).1) from hc, obind_some]
    simp only
    by_cases q : (tre 16 l 0).1 = 0
    · obtain ⟨z, rfl, hz, hd⟩ := hc2 q
      rw [decide_eq_false (by simp [q]), cond_false, if_neg (by simp [q]), ← hd]
      by_cases hz2 : z < l.length
      · rw [d_lt (by omega), cond_true, if_neg (by rw [drop_cons hz2]; exact List.cons_ne_nil _ _)]
      · rw [d_nlt (by omega), cond_false, if_pos (List.drop_of_length_le (by omega))]
    · rw [decide_eq_true q, cond_true, if_pos q]
/-- What may be, is a tree. -/
theorem chkT_tree {l : List GNode_} (h : chkT l = 0) : l = [] ∨ ∃ t : PT, l = t.flat ∧ t.ok 16 0 ∧ l.length ≤ 30 := by
  unfold chkT at h
  by_cases h1 : 30 < l.length
  · rw [if_pos h1] at h; omega
  rw [if_neg h1] at h
  by_cases h0 : l = []
  · exact .inl h0
  rw [if_neg h0] at h
  by_cases q : (tre 16 l 0).1 = 0
  · rw [if_neg (by simp [q])] at h
    by_cases q2 : (tre 16 l 0).2 = []
    · obtain ⟨t, e, k⟩ := of_tre (d := 16) (wh := 0) (l := l) (r := []) (Prod.ext q q2)
      exact .inr ⟨t, by simpa using e, k, by omega⟩
    · rw [if_neg q2] at h; omega
  · rw [if_pos q] at h; exact absurd h q
theorem chkT_of {t : PT} (h : t.ok 16 0) (hl : t.flat.length ≤ 30) : chkT t.flat = 0 := by
  have := tre_of (r := []) h
  rw [List.append_nil] at this
  unfold chkT
  rw [if_neg (by omega), if_neg (by have := t.flat_pos; intro e; rw [e] at this; simp at this), this]
  rfl
end Go.Proofs.Ytdpmojhejidhiaa.K
namespace Go.Proofs.Ytdpmojhejidhiaa.K
open Go.RowKit Go.Lib
set_option linter.unusedVariables false
set_option linter.unusedSimpArgs false
def par (b : Bool) (s : List UInt8) : List UInt8 := if b = true then 40 :: (s ++ [41]) else s
def bndK (n : GNode_) : Int := if nK n = 2 then 1 else if nK n = 1 then 2 else 3
def wrdS (n : GNode_) : List UInt8 := if nK n = 2 then [111, 114] else if nK n = 1 then [97, 110, 100] else if nK n = 4 then signS n.Op else if nK n = 5 then [43] else [45]
def lefP (n : GNode_) : Int := if nK n = 2 then 1 else if nK n = 1 then 2 else 0
def rigP (n : GNode_) : Int := if nK n = 2 then 2 else if nK n = 1 then 3 else 0
def PT.str : PT → List UInt8
  | .leaf n => if nK n = 7 then n.Name else if nK n = 8 then n.Var ++ [46] ++ n.Name else litS n.Val
  | .one n a => [110, 111, 116, 32] ++ par (decide (bndK a.nd < 3)) a.str
  | .two n a b => par (decide (bndK a.nd < lefP n)) a.str ++ [32] ++ wrdS n ++ [32] ++ par (decide (bndK b.nd < rigP n)) b.str
theorem par_len (b : Bool) (s : List UInt8) : (par b s).length ≤ s.length + 2 := by unfold par; split <;> simp
theorem sign_len (o : UInt8) : (signS o).length ≤ 2 := by unfold signS; split <;> simp
theorem wrd_len (n : GNode_) : (wrdS n).length ≤ 3 := by
  have := sign_len n.Op
  unfold wrdS; split <;> (try split) <;> (try split) <;> (try split) <;> simp <;> omega
/-- What a statement takes of nodes. -/
def nS (l : List GNode_) : Prop := ∀ n ∈ l, u64B n.Val.Bits ∧ n.Name.length ≤ 40 ∧ n.Var.length ≤ 40
theorem str_len : ∀ {t : PT}, nS t.flat → t.str.length ≤ 110 * t.flat.length
  | .leaf n, h => by
    have := h n (by simp [PT.flat])
    have := lit_len n.Val
    unfold PT.str PT.flat
    split
    · simp; omega
    · split
      · simp; omega
      · simp; omega
  | .one n a, h => by
    have := str_len (t := a) (fun m hm => h m (by simp [PT.flat, hm]))
    have := par_len (decide (bndK a.nd < 3)) a.str
    unfold PT.str PT.flat
    simp; omega
  | .two n a b, h => by
    have := str_len (t := a) (fun m hm => h m (by simp [PT.flat, hm]))
    have := str_len (t := b) (fun m hm => h m (by simp [PT.flat, hm]))
    have := par_len (decide (bndK a.nd < lefP n)) a.str
    have := par_len (decide (bndK b.nd < rigP n)) b.str
    have := wrd_len n
    unfold PT.str PT.flat
    simp; omega
theorem geti_at {α : Type} {l r : List α} {n : α} {a : Nat} (h : l.drop a = n :: r) : geti l (a : Int) = some n := by
  have hl : a < l.length := by
    have := congrArg List.length h
    rw [List.length_drop, List.length_cons] at this; omega
  rw [geti_lt hl]
  rw [List.drop_eq_getElem_cons hl] at h
  rw [(List.cons.inj h).1]
theorem drop_at {α : Type} {l s r : List α} {a : Nat} (h : l.drop a = s ++ r) : l.drop (a + s.length) = r := by
  rw [← List.drop_drop, h]; simp
theorem bound_ok (n : GNode_) : m_pred_bound n.Kind = some (bndK n) := by
  unfold m_pred_bound bndK nK
  by_cases h : n.Kind.toNat = 2
  · rw [decide_eq_true (by omega), cond_true, if_pos h]
  · rw [decide_eq_false (by omega), cond_false, if_neg h]
    by_cases h : n.Kind.toNat = 1
    · rw [decide_eq_true (by omega), cond_true, if_pos h]
    · rw [decide_eq_false (by omega), cond_false, if_neg h]
theorem within_ok {rec : GTchecker → Option ((List UInt8) × GTchecker)} {l : List GNode_} {at_ p : Int} {n : GNode_} {s : List UInt8} {c : GTchecker} (hg : geti l at_ = some n) (hr : rec (GTchecker.mk l at_) = some (s, c)) (hs : s.length ≤ 100000) :
    m_pred_printer_within rec (GTchecker.mk l at_) p = some (par (decide (bndK n < p)) s, c) := by
  unfold m_pred_printer_within
  simp only
  rw [hg, obind_some, bound_ok, obind_some, hr]
  simp only [obind_some]
  cases decide (bndK n < p) with
  | false => rfl
  | true =>
    rw [cond_true, app_ok (by simp; omega), obind_some, app_ok (by simp; omega), obind_some]
    rfl
theorem two_ok {rec : GTchecker → Option ((List UInt8) × GTchecker)} {l : List GNode_} {a b p q : Int} {n m : GNode_} {s t w : List UInt8} {c : GTchecker} (hg : geti l a = some n) (hr : rec (GTchecker.mk l a) = some (s, GTchecker.mk l b)) (hs : s.length ≤ 100000)
    (hg2 : geti l b = some m) (hr2 : rec (GTchecker.mk l b) = some (t, c)) (ht : t.length ≤ 100000) (hw : w.length ≤ 10) :
    m_pred_printer_two rec (GTchecker.mk l a) w p q = some (par (decide (bndK n < p)) s ++ [32] ++ w ++ [32] ++ par (decide (bndK m < q)) t, c) := by
  unfold m_pred_printer_two
  have h1 := par_len (decide (bndK n < p)) s
  have h2 := par_len (decide (bndK m < q)) t
  rw [within_ok hg hr hs, obind_some]
  simp only
  rw [app_ok (by simp; omega), obind_some, app_ok (by simp; omega), obind_some, app_ok (by simp; omega), obind_some, within_ok hg2 hr2 ht, obind_some]
  simp only
  rw [app_ok (by simp; omega), obind_some]
theorem kids_one {k : Nat} (h : kidsN k = 1) : k = 3 := by unfold kidsN at h; split at h <;> (try split at h) <;> omega
theorem kids_two {k : Nat} (h : kidsN k = 2) : k = 1 ∨ k = 2 ∨ k = 4 ∨ k = 5 ∨ k = 6 := by unfold kidsN at h; split at h <;> (try split at h) <;> omega
theorem kids_no {k wh : Nat} (h : kidsN k = 0) (hm : mayN k wh = true) : k = 7 ∨ k = 8 ∨ k = 9 := by
  unfold kidsN at h; unfold mayN at hm
  split at h
  · omega
  · split at h
    · omega
    · split at hm
      · have := of_decide_eq_true hm; omega
      · split at hm
        · have := of_decide_eq_true hm; omega
        · have := of_decide_eq_true hm; omega
theorem nS_sub {l t r : List GNode_} {a : Nat} (h : nS l) (e : l.drop a = t ++ r) : nS t := fun n hn => h n (List.mem_of_mem_drop (i := a) (by rw [e]; simp [hn]))
theorem flat_le {l t r : List GNode_} {a : Nat} (e : l.drop a = t ++ r) : a + t.length ≤ l.length ∨ t = [] := by
  have := congrArg List.length e
  rw [List.length_drop, List.length_append] at this
  by_cases h : t.length = 0
  · exact .inr (List.eq_nil_of_length_eq_zero h)
  · exact .inl (by omega)
theorem ptext_ok {l : List GNode_} (hl : l.length ≤ 100) (hS : nS l) : ∀ {t : PT} {d wh a fu : Nat} {r : List GNode_}, t.ok d wh → l.drop a = t.flat ++ r → t.flat.length < fu →
    m_pred_printer_tree fu (GTchecker.mk l (a : Int)) = some (t.str, GTchecker.mk l ((a + t.flat.length : Nat) : Int)) := by
  intro t
  induction t with
  | leaf n =>
    intro d wh a fu r h e hf
    cases fu with
    | zero => omega
    | succ fu =>
    cases d with
    | zero => exact h.elim
    | succ d =>
    have hn := nS_sub hS e n (by simp [PT.flat])
    have ha : a < l.length := by have := congrArg List.length e; simp [PT.flat] at this; omega
    unfold m_pred_printer_tree
    simp only
    rw [geti_at (show l.drop a = n :: r from e), obind_some, inc_ok (by omega)]
    have hk := kids_no h.2.2 h.1
    have hk' : nK n = n.Kind.toNat := rfl
    unfold PT.str PT.flat
    rcases hk with k | k | k <;> rw [hk'] at k
    · rw [k, hk', k]; rfl
    · rw [k, hk', k]
      rw [app_ok (by simp; omega)]
      simp only [obind_some]
      rw [app_ok (by simp; omega)]
      rfl
    · rw [k, hk', k, lit_ok hn.1]
      rfl
  | one n x ih =>
    intro d wh a fu r h e hf
    cases fu with
    | zero => omega
    | succ fu =>
    cases d with
    | zero => exact h.elim
    | succ d =>
    have ha : a < l.length := by have := congrArg List.length e; simp [PT.flat] at this; omega
    have e1 : l.drop (a + 1) = x.flat ++ r := drop_at (s := [n]) e
    have sx := str_len (nS_sub hS e1)
    have lx : x.flat.length ≤ 100 := by have := congrArg List.length e1; simp at this; omega
    obtain ⟨rx, hx⟩ := x.flat_cons
    unfold m_pred_printer_tree
    simp only
    rw [geti_at (show l.drop a = n :: (x.flat ++ r) from e), obind_some, inc_ok (by omega)]
    have hk := kids_one h.2.2.1
    have hk' : nK n = n.Kind.toNat := rfl
    rw [hk'] at hk
    rw [hk]
    have := within_ok (rec := fun p0 => m_pred_printer_tree fu p0) (p := 3) (geti_at (l := l) (a := a + 1) (by rw [e1, hx]; rfl)) (ih h.2.2.2 e1 (by simp [PT.flat] at hf; omega)) (by omega)
    rw [this]
    have hp := par_len (decide (bndK x.nd < 3)) x.str
    show (Option.bind (app ([110, 111, 116, 32] : List UInt8) (par (decide (bndK x.nd < 3)) x.str)) fun t35_3 => some (t35_3, GTchecker.mk l ((a + 1 + x.flat.length : Nat) : Int))) = _
    rw [app_ok (by simp; omega), obind_some]
    show some (([110, 111, 116, 32] : List UInt8) ++ par (decide (bndK x.nd < 3)) x.str, GTchecker.mk l _) = some (([110, 111, 116, 32] : List UInt8) ++ par (decide (bndK x.nd < 3)) x.str, GTchecker.mk l ((a + (n :: x.flat).length : Nat) : Int))
    rw [List.length_cons, show a + 1 + x.flat.length = a + (x.flat.length + 1) by omega]
  | two n x y ihx ihy =>
    intro d wh a fu r h e hf
    cases fu with
    | zero => omega
    | succ fu =>
    cases d with
    | zero => exact h.elim
    | succ d =>
    have ha : a < l.length := by have := congrArg List.length e; simp [PT.flat] at this; omega
    have e1 : l.drop (a + 1) = x.flat ++ (y.flat ++ r) := by rw [← List.append_assoc]; exact drop_at (s := [n]) e
    have e2 : l.drop (a + 1 + x.flat.length) = y.flat ++ r := drop_at e1
    have sx := str_len (nS_sub hS e1)
    have lx : x.flat.length ≤ 100 := by have := congrArg List.length e1; simp at this; omega
    have sy := str_len (nS_sub hS e2)
    have ly : y.flat.length ≤ 100 := by have := congrArg List.length e2; simp at this; omega
    obtain ⟨rx, hx⟩ := x.flat_cons
    obtain ⟨ry, hy⟩ := y.flat_cons
    unfold m_pred_printer_tree
    simp only
    rw [geti_at (show l.drop a = n :: ((x.flat ++ y.flat) ++ r) from e), obind_some, inc_ok (by omega)]
    have hk := kids_two h.2.2.1
    have hk' : nK n = n.Kind.toNat := rfl
    rw [hk'] at hk
    have gx := geti_at (l := l) (a := a + 1) (n := x.nd) (r := rx ++ (y.flat ++ r)) (by rw [e1, hx]; rfl)
    have gy := geti_at (l := l) (a := a + 1 + x.flat.length) (n := y.nd) (r := ry ++ r) (by rw [e2, hy]; rfl)
    have rx' := ihx (fu := fu) h.2.2.2.1 e1 (by simp [PT.flat] at hf; omega)
    have ry' := ihy (fu := fu) h.2.2.2.2 e2 (by simp [PT.flat] at hf; omega)
    have hT := fun w (hw : w.length ≤ 10) p q => two_ok (rec := fun p0 => m_pred_printer_tree fu p0) (p := p) (q := q) (w := w) gx rx' (by omega) gy ry' (by omega) hw
    have el : a + 1 + x.flat.length + y.flat.length = a + (PT.two n x y).flat.length := by simp [PT.flat]; omega
    rw [el] at hT
    rw [show (PT.two n x y).str = par (decide (bndK x.nd < lefP n)) x.str ++ [32] ++ wrdS n ++ [32] ++ par (decide (bndK y.nd < rigP n)) y.str from rfl]
    unfold wrdS lefP rigP
    rcases hk with k | k | k | k | k
    · rw [hT [97, 110, 100] (by simp) 2 3, k, hk', k]; rfl
    · rw [hT [111, 114] (by simp) 1 2, k, hk', k]; rfl
    · rw [k, hk', k, sign_ok, obind_some, hT (signS n.Op) (by have := sign_len n.Op; omega) 0 0]; rfl
    · rw [k, hk', k, hT [43] (by simp) 0 0]; rfl
    · rw [k, hk', k, hT [45] (by simp) 0 0]; rfl
theorem rsign_ok (o : UInt8) : m_telltaleref05_Sign o = some (signS o) := by
  unfold m_telltaleref05_Sign signS
  generalize o.toNat = n
  match n with
  | 0 => rfl
  | 1 => rfl
  | 2 => rfl
  | 3 => rfl
  | 4 => rfl
  | 5 => rfl
  | 6 => rfl
  | n + 7 => rw [decide_eq_true (by omega)]; rfl
theorem about_ok {s : List UInt8} (b : Bool) (hs : s.length ≤ 100000) : m_telltaleref11_about s b = some (par b s) := by
  unfold m_telltaleref11_about
  cases b with
  | false => rfl
  | true => rw [cond_true, app_ok (by simp; omega), obind_some, app_ok (by simp; omega)]; rfl
theorem rtext_ok {l : List GNode_} (hl : l.length ≤ 100) (hS : nS l) : ∀ {t : PT} {d wh a fu : Nat} {r : List GNode_}, t.ok d wh → l.drop a = t.flat ++ r → t.flat.length < fu →
    m_telltaleref11_text fu l (a : Int) = some (t.str, ((a + t.flat.length : Nat) : Int)) := by
  intro t
  induction t with
  | leaf n =>
    intro d wh a fu r h e hf
    cases fu with
    | zero => omega
    | succ fu =>
    cases d with
    | zero => exact h.elim
    | succ d =>
    have hn := nS_sub hS e n (by simp [PT.flat])
    have ha : a < l.length := by have := congrArg List.length e; simp [PT.flat] at this; omega
    unfold m_telltaleref11_text
    rw [geti_at (show l.drop a = n :: r from e), obind_some, inc_ok (by omega)]
    have hk := kids_no h.2.2 h.1
    have hk' : nK n = n.Kind.toNat := rfl
    unfold PT.str PT.flat
    rcases hk with k | k | k <;> rw [hk'] at k
    · rw [k, hk', k]; rfl
    · rw [k, hk', k]
      rw [app_ok (by simp; omega)]
      simp only [obind_some]
      rw [app_ok (by simp; omega)]
      rfl
    · rw [k, hk', k, rlit_ok hn.1]
      rfl
  | one n x ih =>
    intro d wh a fu r h e hf
    cases fu with
    | zero => omega
    | succ fu =>
    cases d with
    | zero => exact h.elim
    | succ d =>
    have ha : a < l.length := by have := congrArg List.length e; simp [PT.flat] at this; omega
    have e1 : l.drop (a + 1) = x.flat ++ r := drop_at (s := [n]) e
    have sx := str_len (nS_sub hS e1)
    have lx : x.flat.length ≤ 100 := by have := congrArg List.length e1; simp at this; omega
    obtain ⟨rx, hx⟩ := x.flat_cons
    unfold m_telltaleref11_text
    rw [geti_at (show l.drop a = n :: (x.flat ++ r) from e), obind_some, inc_ok (by omega)]
    have hk := kids_one h.2.2.1
    have hk' : nK n = n.Kind.toNat := rfl
    rw [hk'] at hk
    rw [hk, geti_at (l := l) (a := a + 1) (by rw [e1, hx]; rfl), ih h.2.2.2 e1 (by simp [PT.flat] at hf; omega)]
    have hp := par_len (decide (bndK x.nd < 3)) x.str
    show _ = some (([110, 111, 116, 32] : List UInt8) ++ par (decide (bndK x.nd < 3)) x.str, ((a + (n :: x.flat).length : Nat) : Int))
    rw [List.length_cons, ← show a + 1 + x.flat.length = a + (x.flat.length + 1) by omega]
    simp only [obind_some]
    rw [about_ok _ (by omega), about_ok _ (by omega)]
    simp only [obind_some]
    have hx' : nK x.nd = x.nd.Kind.toNat := rfl
    have hb : par (decide (bndK x.nd < 3)) x.str = par (decide (x.nd.Kind.toNat = 1) || decide (x.nd.Kind.toNat = 2)) x.str := by
      congr 1
      unfold bndK; rw [hx']
      by_cases h2 : x.nd.Kind.toNat = 2
      · rw [if_pos h2, h2]; rfl
      · by_cases h1 : x.nd.Kind.toNat = 1
        · rw [if_neg h2, if_pos h1, h1]; rfl
        · rw [if_neg h2, if_neg h1, decide_eq_false h1, decide_eq_false h2]; rfl
    rw [hb]
    have px : ∀ b, (par b x.str).length ≤ 20000 := fun b => by have := par_len b x.str; omega
    by_cases h1 : x.nd.Kind.toNat = 1
    · rw [h1]
      rw [app_ok (l := [110, 111, 116, 32]) (r := par true x.str) (by have := px true; simp only [List.length_cons, List.length_nil]; omega)]; rfl
    · rw [decide_eq_false h1]
      rw [decide_eq_false (p := ((x.nd.Kind.toNat : Nat) : Int) = 1) (by omega), show decide (((x.nd.Kind.toNat : Nat) : Int) = 2) = decide (x.nd.Kind.toNat = 2) from decide_eq_decide.2 (by omega)]
      rw [app_ok (l := [110, 111, 116, 32]) (r := par (decide (x.nd.Kind.toNat = 2)) x.str) (by have := px (decide (x.nd.Kind.toNat = 2)); simp only [List.length_cons, List.length_nil]; omega)]; rfl
  | two n x y ihx ihy =>
    intro d wh a fu r h e hf
    cases fu with
    | zero => omega
    | succ fu =>
    cases d with
    | zero => exact h.elim
    | succ d =>
    have ha : a < l.length := by have := congrArg List.length e; simp [PT.flat] at this; omega
    have e1 : l.drop (a + 1) = x.flat ++ (y.flat ++ r) := by rw [← List.append_assoc]; exact drop_at (s := [n]) e
    have e2 : l.drop (a + 1 + x.flat.length) = y.flat ++ r := drop_at e1
    have sx := str_len (nS_sub hS e1)
    have lx : x.flat.length ≤ 100 := by have := congrArg List.length e1; simp at this; omega
    have sy := str_len (nS_sub hS e2)
    have ly : y.flat.length ≤ 100 := by have := congrArg List.length e2; simp at this; omega
    obtain ⟨rx, hx⟩ := x.flat_cons
    obtain ⟨ry, hy⟩ := y.flat_cons
    unfold m_telltaleref11_text
    rw [geti_at (show l.drop a = n :: ((x.flat ++ y.flat) ++ r) from e), obind_some, inc_ok (by omega)]
    have hk := kids_two h.2.2.1
    have hk' : nK n = n.Kind.toNat := rfl
    rw [hk'] at hk
    have gx := geti_at (l := l) (a := a + 1) (n := x.nd) (r := rx ++ (y.flat ++ r)) (by rw [e1, hx]; rfl)
    have gy := geti_at (l := l) (a := a + 1 + x.flat.length) (n := y.nd) (r := ry ++ r) (by rw [e2, hy]; rfl)
    have rx' := ihx (fu := fu) h.2.2.2.1 e1 (by simp [PT.flat] at hf; omega)
    have ry' := ihy (fu := fu) h.2.2.2.2 e2 (by simp [PT.flat] at hf; omega)
    have el : a + 1 + x.flat.length + y.flat.length = a + (PT.two n x y).flat.length := by simp [PT.flat]; omega
    rw [el] at ry'
    rw [gx, rx']
    simp only [obind_some]
    rw [gy, ry']
    simp only [obind_some]
    rw [about_ok (decide (((x.nd.Kind.toNat : Nat) : Int) = 2)) (show x.str.length ≤ 100000 by omega), about_ok true (show y.str.length ≤ 100000 by omega), about_ok (decide (((y.nd.Kind.toNat : Nat) : Int) = 2)) (show y.str.length ≤ 100000 by omega)]
    simp only [obind_some]
    rw [show (PT.two n x y).str = par (decide (bndK x.nd < lefP n)) x.str ++ [32] ++ wrdS n ++ [32] ++ par (decide (bndK y.nd < rigP n)) y.str from rfl]
    have px : ∀ b, (par b x.str).length ≤ 20000 := fun b => by have := par_len b x.str; omega
    have py : ∀ b, (par b y.str).length ≤ 20000 := fun b => by have := par_len b y.str; omega
    have b0 : ∀ m : GNode_, decide (bndK m < 0) = false := fun m => decide_eq_false (by unfold bndK; split <;> (try split) <;> omega)
    have b1 : ∀ m : GNode_, decide (bndK m < 1) = false := fun m => decide_eq_false (by unfold bndK; split <;> (try split) <;> omega)
    have b2 : ∀ m : GNode_, decide (bndK m < 2) = decide (((m.Kind.toNat : Nat) : Int) = 2) := fun m => decide_eq_decide.2 (by
      have : nK m = m.Kind.toNat := rfl
      unfold bndK; split <;> (try split) <;> omega)
    have b3 : ∀ m : GNode_, decide (bndK m < 3) = (decide (((m.Kind.toNat : Nat) : Int) = 1) || decide (((m.Kind.toNat : Nat) : Int) = 2)) := fun m => by
      rw [← Bool.decide_or]
      exact decide_eq_decide.2 (by
        have : nK m = m.Kind.toNat := rfl
        unfold bndK; split <;> (try split) <;> omega)
    have nb : ∀ s : List UInt8, par false s = s := fun s => rfl
    have ls := sign_len n.Op
    unfold wrdS lefP rigP
    rcases hk with k | k | k | k | k
    · rw [k, hk', k]
      rw [show decide (bndK x.nd < if 1 = 2 then 1 else if 1 = 1 then 2 else 0) = decide (bndK x.nd < 2) from rfl, show decide (bndK y.nd < if 1 = 2 then 2 else if 1 = 1 then 3 else 0) = decide (bndK y.nd < 3) from rfl, b2, b3]
      rw [app_ok (l := par (decide (((x.nd.Kind.toNat : Nat) : Int) = 2)) x.str) (by have := px (decide (((x.nd.Kind.toNat : Nat) : Int) = 2)); simp; omega)]
      simp only [obind_some]
      by_cases h1 : ((y.nd.Kind.toNat : Nat) : Int) = 1
      · rw [decide_eq_true h1]
        rw [app_ok (r := par true y.str) (by have := px (decide (((x.nd.Kind.toNat : Nat) : Int) = 2)); have := py true; simp only [List.length_append, List.length_cons, List.length_nil]; omega)]
        simp
      · rw [decide_eq_false h1]
        rw [app_ok (r := par (decide (((y.nd.Kind.toNat : Nat) : Int) = 2)) y.str) (by have := px (decide (((x.nd.Kind.toNat : Nat) : Int) = 2)); have := py (decide (((y.nd.Kind.toNat : Nat) : Int) = 2)); simp only [List.length_append, List.length_cons, List.length_nil]; omega)]
        simp
    · rw [k, hk', k]
      rw [show decide (bndK x.nd < if 2 = 2 then 1 else if 2 = 1 then 2 else 0) = decide (bndK x.nd < 1) from rfl, show decide (bndK y.nd < if 2 = 2 then 2 else if 2 = 1 then 3 else 0) = decide (bndK y.nd < 2) from rfl, b1, b2, nb]
      rw [app_ok (l := x.str) (r := [32, 111, 114, 32]) (by simp; omega)]
      simp only [obind_some]
      rw [app_ok (r := par (decide (((y.nd.Kind.toNat : Nat) : Int) = 2)) y.str) (by have := py (decide (((y.nd.Kind.toNat : Nat) : Int) = 2)); simp only [List.length_append, List.length_cons, List.length_nil]; omega)]
      simp
    · rw [k, hk', k]
      rw [show decide (bndK x.nd < if 4 = 2 then 1 else if 4 = 1 then 2 else 0) = decide (bndK x.nd < 0) from rfl, show decide (bndK y.nd < if 4 = 2 then 2 else if 4 = 1 then 3 else 0) = decide (bndK y.nd < 0) from rfl, b0, b0, nb, nb, rsign_ok]
      rw [app_ok (l := x.str) (r := [32]) (by simp; omega)]
      simp only [obind_some]
      rw [app_ok (r := signS n.Op) (by simp; omega)]
      simp only [obind_some]
      rw [app_ok (l := x.str ++ [32] ++ signS n.Op) (by simp; omega)]
      simp only [obind_some]
      rw [app_ok (r := y.str) (by simp; omega)]
      simp
    · rw [k, hk', k]
      rw [show decide (bndK x.nd < if 5 = 2 then 1 else if 5 = 1 then 2 else 0) = decide (bndK x.nd < 0) from rfl, show decide (bndK y.nd < if 5 = 2 then 2 else if 5 = 1 then 3 else 0) = decide (bndK y.nd < 0) from rfl, b0, b0, nb, nb]
      rw [app_ok (l := x.str) (r := [32, 43, 32]) (by simp; omega)]
      simp only [obind_some]
      rw [app_ok (r := y.str) (by simp; omega)]
      simp
    · rw [k, hk', k]
      rw [show decide (bndK x.nd < if 6 = 2 then 1 else if 6 = 1 then 2 else 0) = decide (bndK x.nd < 0) from rfl, show decide (bndK y.nd < if 6 = 2 then 2 else if 6 = 1 then 3 else 0) = decide (bndK y.nd < 0) from rfl, b0, b0, nb, nb]
      rw [app_ok (l := x.str) (r := [32, 45, 32]) (by simp; omega)]
      simp only [obind_some]
      rw [app_ok (r := y.str) (by simp; omega)]
      simp
end Go.Proofs.Ytdpmojhejidhiaa.K
namespace Go.Proofs.Ytdpmojhejidhiaa.K
open Go.RowKit Go.Lib
set_option linter.unusedVariables false
theorem eq_loop {α : Type} [DecidableEq α] {L : Nat → Int → Option Bool} {a b : List α} (hl : a.length = b.length) (hb : a.length ≤ 1000000000) (hend : ∀ fu, L (fu + 1) (a.length : Int) = some true)
    (hstep : ∀ (fu i : Nat) (h1 : i < a.length) (h2 : i < b.length), L (fu + 1) (i : Int) = if a[i] = b[i] then L fu ((i + 1 : Nat) : Int) else some false) : L 1152921504606846976 0 = some (decide (a = b)) := by
  have := loop1_0 (L := L) (n := a.length) (P := fun i o => o = some (decide (a.drop i = b.drop i))) (by omega)
    (fun fu => by
      rw [hend, List.drop_eq_nil_of_le (Nat.le_refl _), List.drop_eq_nil_of_le (by omega)]; rfl)
    (fun fu i hi ih => by
      rw [hstep fu i hi (by omega), drop_cons hi, drop_cons (l := b) (by omega)]
      by_cases h : a[i] = b[i]'(by omega)
      · rw [if_pos h, ih]
        congr 1
        exact decide_eq_decide.2 ⟨fun e => by rw [h, e], fun e => (List.cons.inj e).2⟩
      · rw [if_neg h]
        congr 1
        exact (decide_eq_false fun e => h (List.cons.inj e).1).symm)
  simpa using this
end Go.Proofs.Ytdpmojhejidhiaa.K
namespace Go.Proofs.Ytdpmojhejidhiaa.K
open Go.RowKit Go.Lib
set_option linter.unusedVariables false
set_option linter.unusedSimpArgs false
theorem u8i {a b : UInt8} : ((a.toNat : Nat) : Int) = ((b.toNat : Nat) : Int) ↔ a = b := ⟨fun h => UInt8.toNat_inj.1 (by omega), fun h => by rw [h]⟩
theorem node_eq (x y : GNode_) : (!(decide (((x.Kind.toNat : Nat) : Int) = ((y.Kind.toNat : Nat) : Int)) && (decide (((x.Op.toNat : Nat) : Int) = ((y.Op.toNat : Nat) : Int)) && (decide (x.Var = y.Var) && (decide (x.Name = y.Name) && ((decide (((x.Val.Kind.toNat : Nat) : Int) = ((y.Val.Kind.toNat : Nat) : Int)) && (decide (x.Val.N = y.Val.N) && (decide (x.Val.Bits = y.Val.Bits) && (decide (x.Val.Text = y.Val.Text) && true)))) && true)))))) = !decide (x = y) := by
  congr 1
  obtain ⟨a, b, c, d, ⟨e, f, g, h⟩⟩ := x
  obtain ⟨a', b', c', d', ⟨e', f', g', h'⟩⟩ := y
  simp only [u8i, Bool.and_true, GNode_.mk.injEq, GValue.mk.injEq, Bool.decide_and]
theorem psame_ok {a b : List GNode_} (ha : a.length ≤ 1000000) : m_pred_Same a b = some (decide (a = b)) := by
  unfold m_pred_Same m_slices_Equal_Node
  by_cases h : a.length = b.length
  · rw [decide_eq_false (by simp [h]), cond_false]
    have := eq_loop (L := fun fu i => m_slices_Equal_Node_l2 a b fu i) h (by omega) (fun fu => by unfold m_slices_Equal_Node_l2; rw [d_nlt (by omega)]; rfl)
      (fun fu i h1 h2 => by
        conv => lhs; unfold m_slices_Equal_Node_l2
        rw [d_lt (by omega), cond_true, geti_lt h1, obind_some, geti_lt h2, obind_some, inc_ok (by omega), obind_some, node_eq]
        by_cases e : a[i] = b[i]
        · rw [decide_eq_true e, if_pos e]; rfl
        · rw [decide_eq_false e, if_neg e]; rfl)
    rw [show m_slices_Equal_Node_l2 a b 1152921504606846976 0 = _ from this]; rfl
  · rw [decide_eq_true (by omega), cond_true, decide_eq_false (fun e => h (by rw [e]))]; rfl
theorem rsame_ok {a b : List GNode_} (ha : a.length ≤ 1000000) : m_telltaleref11_Same a b = some (decide (a = b)) := by
  unfold m_telltaleref11_Same
  by_cases h : a.length = b.length
  · rw [decide_eq_false (by simp [h]), cond_false]
    exact eq_loop (L := fun fu i => m_telltaleref11_Same_l1 a b fu i) h (by omega) (fun fu => by unfold m_telltaleref11_Same_l1; rw [d_nlt (by omega)]; rfl)
      (fun fu i h1 h2 => by
        conv => lhs; unfold m_telltaleref11_Same_l1
        rw [d_lt (by omega), cond_true, geti_lt h1, obind_some, geti_lt h2, obind_some, inc_ok (by omega), obind_some, node_eq]
        by_cases e : a[i] = b[i]
        · rw [decide_eq_true e, if_pos e]; rfl
        · rw [decide_eq_false e, if_neg e]; rfl)
  · rw [decide_eq_true (by omega), cond_true, decide_eq_false (fun e => h (by rw [e]))]
/-! ### what a statement takes -/
theorem own_ok {l : List GNode_} (hl : l.length ≤ 400000000) : m_telltalelaw11_Own l = some l := by
  have := map_loop (L := fun fu s i => m_telltalelaw11_Own_l0 l fu s i) (l := l) (f := id) (e := id) hl (fun fu s => by unfold m_telltalelaw11_Own_l0; rw [d_nlt (by omega)]; rfl)
    (fun fu s i h hs => by
      conv => lhs; unfold m_telltalelaw11_Own_l0
      rw [d_lt (by omega), cond_true, geti_lt h, obind_some, app_ok (by simp; omega), obind_some, inc_ok (by omega)]; rfl)
  rw [List.map_id] at this; exact this
theorem over_ok {l : List GNode_} (hw : ∀ n ∈ l, wf_GNode_ n) : ∃ r, m_telltalelaw11_Over l = some r ∧ (r = 1 ∨ r = 0 ∧ l.length ≤ 40 ∧ nS l) := by
  unfold m_telltalelaw11_Over
  by_cases h : 40 < l.length
  · rw [d_lt (by omega)]; exact ⟨1, rfl, .inl rfl⟩
  · rw [d_nlt (by omega), cond_false]
    have := loop1_0 (L := fun fu i => m_telltalelaw11_Over_l1 l fu i) (n := l.length) (P := fun i o => ∃ r, o = some r ∧ (r = 1 ∨ r = 0 ∧ nS (l.drop i))) (by omega)
      (fun fu => by unfold m_telltalelaw11_Over_l1; rw [d_nlt (by omega)]; exact ⟨0, rfl, .inr ⟨rfl, by simp [nS]⟩⟩)
      (fun fu i hi ih => by
        have hwi := hw l[i] (List.getElem_mem hi)
        unfold m_telltalelaw11_Over_l1
        rw [d_lt (by omega), cond_true, geti_lt hi, obind_some]
        by_cases h1 : 40 < l[i].Var.length
        · rw [d_lt (by omega)]; exact ⟨1, rfl, .inl rfl⟩
        rw [d_nlt (by omega), cond_false, obind_some]
        by_cases h2 : 40 < l[i].Name.length
        · rw [d_lt (by omega)]; exact ⟨1, rfl, .inl rfl⟩
        rw [d_nlt (by omega), cond_false, obind_some]
        unfold m_telltalelaw04_Small
        rw [obind_some]
        by_cases h3 : (0 : Int) < max 0 (IntKind.i64.wrap (((List.length l[i].Val.Text : Nat) : Int) - 100))
        · rw [d_lt h3]; exact ⟨1, rfl, .inl rfl⟩
        rw [d_nlt h3, cond_false, inc_ok (by omega)]
        obtain ⟨r, e, q⟩ := ih
        refine ⟨r, e, q.imp id fun ⟨q1, q2⟩ => ⟨q1, ?_⟩⟩
        rw [drop_cons hi]
        intro n hn
        rcases List.mem_cons.1 hn with rfl | hn
        · exact ⟨in_u64 hwi.Val.Bits, by omega, by omega⟩
        · exact q2 n hn)
    obtain ⟨r, e, q⟩ := this
    exact ⟨r, e, q.imp id fun q => ⟨q.1, by omega, by simpa using q.2⟩⟩
theorem nB_of {l : List GNode_} (h1 : l.length ≤ 40) (h2 : nS l) : nB l := ⟨by omega, fun n hn => (h2 n hn).1⟩
/-! ### texts -/
def prS (l : List GNode_) : List UInt8 → Prop := fun s => (chkT l ≠ 0 ∧ s = []) ∨ (l = [] ∧ s = []) ∨ ∃ t : PT, l = t.flat ∧ t.ok 16 0 ∧ s = t.str
theorem print_ok {l : List GNode_} (hl : l.length ≤ 40) (hS : nS l) : ∃ s, m_pred_Print l = some s ∧ m_telltaleref11_Print l = some s ∧ prS l s := by
  unfold m_pred_Print m_telltaleref11_Print
  by_cases h0 : l = []
  · subst h0; exact ⟨[], rfl, rfl, .inr (.inl ⟨rfl, rfl⟩)⟩
  have : l.length ≠ 0 := fun e => h0 (List.eq_nil_of_length_eq_zero e)
  rw [decide_eq_false (by omega), cond_false, cond_false, pcheck_ok (nB_of hl hS), rpcheck_ok (nB_of hl hS), obind_some, obind_some]
  by_cases q : chkT l = 0
  · rw [decide_eq_false (by simp [q]), cond_false, cond_false]
    rcases chkT_tree q with e | ⟨t, e, ht, _⟩
    · exact absurd e h0
    · have hp := ptext_ok (l := l) (by omega) hS (t := t) (a := 0) (fu := 1152921504606846976) (r := []) ht (by simpa using e) (by rw [← e]; omega)
      have hr := rtext_ok (l := l) (by omega) hS (t := t) (a := 0) (fu := 1152921504606846976) (r := []) ht (by simpa using e) (by rw [← e]; omega)
      rw [show m_pred_printer_tree 1152921504606846976 (GTchecker.mk l 0) = _ from hp, show m_telltaleref11_text 1152921504606846976 l 0 = _ from hr]
      exact ⟨t.str, rfl, rfl, .inr (.inr ⟨t, e, ht, rfl⟩)⟩
  · rw [decide_eq_true q]
    exact ⟨[], rfl, rfl, .inl ⟨q, rfl⟩⟩
end Go.Proofs.Ytdpmojhejidhiaa.K
