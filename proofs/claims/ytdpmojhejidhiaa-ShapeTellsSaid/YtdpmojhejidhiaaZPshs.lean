/- Patterns as trees: their texts, plain. -/
import Derived.Test.YtdpmojhejidhiaaZA4
set_option linter.unusedVariables false
set_option linter.unusedSimpArgs false
namespace Go.Proofs.Ytdpmojhejidhiaa.K
open Go.RowKit Go.Lib
/-! ### the text of a node -/
def prT (l : List GNode_) : List UInt8 := (m_pred_Print l).getD []
theorem prT_ok {l : List GNode_} (hl : l.length ≤ 40) (hS : nS l) : m_pred_Print l = some (prT l) ∧ (prT l).length ≤ 4400 := by
  obtain ⟨s, h, _, h2⟩ := print_ok hl hS
  unfold prT
  rw [h]
  refine ⟨rfl, ?_⟩
  rcases h2 with ⟨_, rfl⟩ | ⟨_, rfl⟩ | ⟨t, e, ht, rfl⟩
  · simp
  · simp
  · subst e
    have := str_len hS
    show t.str.length ≤ _
    omega
theorem digits_ok {k : Int} (h1 : 0 ≤ k) (h2 : k ≤ 1073741824) : m_shape_digits k = some (decS k) ∧ (decS k).length ≤ 100 := by
  have e : max (-4611686018427387904) (min k 4611686018427387904) = k := by omega
  have hc : chkV (GValue.mk 1 k 0 []) = 0 := by unfold chkV; simp; omega
  have hl : litS (GValue.mk 1 k 0 []) = decS k := by unfold litS; rw [if_neg (by simp [hc])]; rfl
  have := lit_len (GValue.mk 1 k 0 [])
  rw [hl] at this
  refine ⟨?_, this⟩
  unfold m_shape_digits m_value_OfInt
  rw [obind_some, e, lit_ok (show u64B (0 : Int) from ⟨by decide, by decide⟩), obind_some, hl]
def timS (n : GNode) : List UInt8 := if n.Hi = 1 then [63] else if n.Hi = 0 then (if n.Lo = 0 then [42] else if n.Lo = 1 then [43] else [123] ++ decS n.Lo ++ [44, 125]) else if n.Hi = n.Lo then [123] ++ decS n.Lo ++ [125] else [123] ++ decS n.Lo ++ [44] ++ decS n.Hi ++ [125]
theorem times_ok {n : GNode} (h : oftB n = true) : m_shape_Node_times n = some (timS n) ∧ (timS n).length ≤ 300 := by
  have h := of_decide_eq_true h
  obtain ⟨d1, l1⟩ := digits_ok (k := n.Lo) (by omega) (by omega)
  obtain ⟨d2, l2⟩ := digits_ok (k := n.Hi) (by omega) (by omega)
  constructor
  · unfold m_shape_Node_times m_shape_Node_times_j11 timS
    rw [d1, d2]
    simp only [obind_some]
    rw [app_ok (l := [123]) (r := decS n.Lo) (by simp; omega)]
    simp only [obind_some]
    rw [app_ok (l := [123] ++ decS n.Lo) (r := [44, 125]) (by simp; omega), app_ok (l := [123] ++ decS n.Lo) (r := [125]) (by simp; omega), app_ok (l := [123] ++ decS n.Lo) (r := [44]) (by simp; omega)]
    simp only [obind_some]
    rw [app_ok (l := [123] ++ decS n.Lo ++ [44]) (r := decS n.Hi) (by simp; omega)]
    simp only [obind_some]
    rw [app_ok (l := [123] ++ decS n.Lo ++ [44] ++ decS n.Hi) (r := [125]) (by simp; omega)]
    simp only [obind_some]
    by_cases a : n.Hi = 1
    · rw [decide_eq_true a, cond_true, if_pos a]
    rw [decide_eq_false a, cond_false, if_neg a]
    by_cases b : n.Hi = 0
    · rw [decide_eq_true b, cond_true, cond_true, cond_true, if_pos b]
      by_cases c : n.Lo = 0
      · rw [decide_eq_true c, cond_true, if_pos c]
      rw [decide_eq_false c, cond_false, if_neg c]
      by_cases d : n.Lo = 1
      · rw [decide_eq_true d, cond_true, if_pos d]
      · rw [decide_eq_false d, cond_false, if_neg d]
    · rw [decide_eq_false b, cond_false, cond_false, if_neg b]
      by_cases c : n.Hi = n.Lo
      · rw [decide_eq_true c, if_pos c]; rfl
      · rw [decide_eq_false c, if_neg c]; rfl
  · unfold timS
    split
    · simp
    · split
      · split
        · simp
        · split
          · simp
          · simp; omega
      · split <;> (simp; omega)
def lefS (n : GNode) : List UInt8 := (if kS n = 5 then [33] else []) ++ (n.Var ++ [58] ++ n.Type_) ++ (if 0 < n.Test.length then [91] ++ prT n.Test ++ [93] else [])
theorem lefS_ok {n : GNode} (h1 : n.Var.length ≤ 40) (h2 : n.Type_.length ≤ 40) (ht : n.Test.length ≤ 40) (hS : nS n.Test) : m_shape_Node_text n = some (lefS n) ∧ (lefS n).length ≤ 4500 := by
  obtain ⟨p1, p2⟩ := prT_ok ht hS
  constructor
  · have j2 : ∀ y, y.length ≤ 100 → m_shape_Node_text_j2 n y = some (y ++ (if 0 < n.Test.length then [91] ++ prT n.Test ++ [93] else [])) := fun y hy => by
      unfold m_shape_Node_text_j2
      by_cases c : 0 < n.Test.length
      · rw [decide_eq_true (by omega), cond_true, if_pos c, p1, obind_some, app_ok (by simp; omega), obind_some, app_ok (by simp; omega), obind_some, app_ok (by simp; omega)]; rfl
      · rw [decide_eq_false (by omega), cond_false, if_neg c, List.append_nil]
    unfold m_shape_Node_text lefS
    rw [app_ok (by simp; omega), obind_some, app_ok (by simp; omega), obind_some, ik5]
    by_cases c : kS n = 5
    · rw [decide_eq_true c, cond_true, if_pos c, app_ok (by simp; omega), obind_some, j2 _ (by simp; omega)]
    · rw [decide_eq_false c, cond_false, if_neg c, j2 _ (by simp; omega)]; rfl
  · unfold lefS
    have a : (if kS n = 5 then ([33] : List UInt8) else []).length ≤ 1 := by split <;> simp
    have b : (if 0 < n.Test.length then [91] ++ prT n.Test ++ [93] else []).length ≤ 4402 := by split <;> simp; omega
    rw [List.length_append, List.length_append, List.length_append, List.length_append]
    simp only [List.length_cons, List.length_nil]
    omega
/-! ### the text of a tree -/
abbrev Bts := List UInt8
def sepS (n : GNode) : Bts := if kS n = 2 then [32, 124, 32] else [59, 32]
def joinL (sep acc : Bts) (ts : List Bts) : Bts := ts.foldl (fun s x => s ++ (sep ++ x)) acc
def finT (a : UInt8) (n : GNode) (s : Bts) : Bts := par (decide (a.toNat = 3) || (decide (a.toNat = 1) && decide (kS n = 2))) (s ++ (if kS n = 3 then timS n else []))
def trT (a : UInt8) (n : GNode) (ts : List Bts) : Bts := if leaB n = true then lefS n else match ts with
  | [] => []
  | x :: xs => finT a n (joinL (sepS n) x xs)
def SF.txs : SF → UInt8 → List Bts
  | .nil, _ => []
  | .cons n k r, a => trT a n (k.txs n.Kind) :: r.txs a
def wid (ts : List Bts) : Nat := (ts.map fun x => x.length + 3).sum
theorem sep_len (n : GNode) : (sepS n).length ≤ 3 := by unfold sepS; split <;> simp
theorem join_len {sep : Bts} (h : sep.length ≤ 3) : ∀ (ts : List Bts) (acc : Bts), (joinL sep acc ts).length ≤ acc.length + wid ts
  | [], acc => by simp [joinL, wid]
  | x :: ts, acc => by
    have := join_len h ts (acc ++ (sep ++ x))
    simp only [joinL, List.foldl_cons, wid, List.map_cons, List.sum_cons] at *
    simp only [List.length_append] at this
    omega
theorem lac_rep {n : GNode} (hk : kS n = 3) (h : lacS n = false) : oftB n = true := by
  unfold lacS lisB at h
  rw [hk] at h
  simp at h
  exact h.2
theorem fin_len (a : UInt8) {n : GNode} (h : lacS n = false) (s : Bts) : (finT a n s).length ≤ s.length + 302 := by
  unfold finT
  have := par_len (decide (a.toNat = 3) || (decide (a.toNat = 1) && decide (kS n = 2))) (s ++ (if kS n = 3 then timS n else []))
  rw [List.length_append] at this
  by_cases c : kS n = 3
  · have := (times_ok (lac_rep c h)).2
    rw [if_pos c] at *
    omega
  · rw [if_neg c] at *
    simp at *; omega
theorem wid_ok : ∀ {t : SF} {d : Nat} {a : UInt8}, t.ok d a → sS t.flat → wid (t.txs a) ≤ 5000 * t.flat.length
  | .nil, d, a, h, hS => by simp [wid, SF.txs]
  | .cons n k r, 0, a, h, hS => h.elim
  | .cons n k r, d + 1, a, h, hS => by
    have hn := hS n (by simp [SF.flat])
    have hk := wid_ok h.2.2.2.2.1 (fun m hm => hS m (by simp [SF.flat, hm]))
    have hr := wid_ok h.2.2.2.2.2 (fun m hm => hS m (by simp [SF.flat, hm]))
    have e : (trT a n (k.txs n.Kind)).length ≤ 4500 + wid (k.txs n.Kind) := by
      unfold trT
      split
      · have := (lefS_ok hn.1 hn.2.1 hn.2.2.1 hn.2.2.2).2; omega
      · cases hx : k.txs n.Kind with
        | nil => simp
        | cons x xs =>
          have h1 := fin_len a h.2.1 (joinL (sepS n) x xs)
          have h2 := join_len (sep_len n) xs x
          simp only [wid, List.map_cons, List.sum_cons] at *
          omega
    simp only [wid, SF.txs, List.map_cons, List.sum_cons, SF.flat, List.length_cons, List.length_append] at *
    omega
theorem sfin_ok {a : UInt8} {n : GNode} {y7 : Bts} {K : UInt8 → GPattern → Int → Option (Bts × GPattern × Int)} {p : GPattern} {kd : Nat} (hk1 : 1 ≤ kd) (hk : kd ≤ 40) (hl : lacS n = false) (fu i : Nat) (hi : kd ≤ i + 1) (at_ : Int) {acc : Bts} (hacc : acc.length ≤ 1000000) :
    m_shape_Print_1_l6 a (kd : Int) n y7 K (fu + 1) p at_ acc (i : Int) = some (finT a n acc, p, at_) := by
  unfold m_shape_Print_1_l6
  rw [w64 (n := (kd : Int) - 1) (by omega) (by omega), decide_eq_false (by omega), cond_false, ik3]
  have j9 : ∀ s : Bts, s.length ≤ 1001000 → m_shape_Print_1_j9 a n p at_ s = some (par (decide (a.toNat = 3) || (decide (a.toNat = 1) && decide (kS n = 2))) s, p, at_) := fun s hs => by
    unfold m_shape_Print_1_j9
    rw [ik2, show decide (((a.toNat : Nat) : Int) = 3) = decide (a.toNat = 3) from decide_eq_decide.2 (by omega), show decide (((a.toNat : Nat) : Int) = 1) = decide (a.toNat = 1) from decide_eq_decide.2 (by omega)]
    rw [app_ok (l := [40]) (r := s) (by simp; omega)]
    simp only [obind_some]
    rw [app_ok (l := [40] ++ s) (r := [41]) (by simp; omega)]
    cases decide (a.toNat = 3) <;> cases decide (a.toNat = 1) <;> cases decide (kS n = 2) <;> rfl
  unfold finT
  by_cases c : kS n = 3
  · obtain ⟨t1, t2⟩ := times_ok (lac_rep c hl)
    rw [decide_eq_true c, cond_true, if_pos c, t1, obind_some, app_ok (by omega), obind_some, j9 _ (by rw [List.length_append]; omega)]
  · rw [decide_eq_false c, cond_false, if_neg c, List.append_nil, j9 _ (by omega)]
theorem sstp_ok {a : UInt8} {n : GNode} {y7 : Bts} {K : UInt8 → GPattern → Int → Option (Bts × GPattern × Int)} {p : GPattern} {kd : Nat} (hk : kd ≤ 40) (fu i : Nat) (hi : i + 1 < kd) (at_ : Int) {acc s : Bts} {z : Int} (hK : K n.Kind p at_ = some (s, p, z)) (h7 : y7.length ≤ 3) (hacc : acc.length + s.length ≤ 1000000) :
    m_shape_Print_1_l6 a (kd : Int) n y7 K (fu + 1) p at_ acc (i : Int) = m_shape_Print_1_l6 a (kd : Int) n y7 K fu p z (acc ++ (y7 ++ s)) ((i + 1 : Nat) : Int) := by
  conv => lhs; unfold m_shape_Print_1_l6
  rw [w64 (n := (kd : Int) - 1) (by omega) (by omega), decide_eq_true (by omega), cond_true, hK, obind_some]
  simp only
  rw [app_ok (by omega), obind_some, app_ok (by rw [List.length_append]; omega), obind_some, inc_ok (by omega)]
/-- What the walk over a wood does: its first tree, and those beside it. -/
def SP (p : GPattern) : SF → Prop
  | .nil => True
  | .cons n k s => (∀ (d fu at_ : Nat) (a : UInt8) (r : List GNode), (SF.cons n k s).ok d a → p.Body.drop at_ = (SF.cons n k s).flat ++ r → k.flat.length + 1 < fu → m_shape_Print_1 fu a p (at_ : Int) = some (trT a n (k.txs n.Kind), p, ((at_ + 1 + k.flat.length : Nat) : Int))) ∧
    (∀ (d fu fu6 at_ i kd : Nat) (q : UInt8) (m : GNode) (y7 acc : Bts) (r : List GNode), s.ok d m.Kind → p.Body.drop at_ = s.flat ++ r → s.flat.length + 1 < fu → s.len < fu6 → kd = i + 1 + s.len → kd ≤ 40 → lacS m = false → y7.length ≤ 3 → acc.length + wid (s.txs m.Kind) ≤ 1000000 →
      m_shape_Print_1_l6 q (kd : Int) m y7 (fun a p z => m_shape_Print_1 fu a p z) fu6 p (at_ : Int) acc (i : Int) = some (finT q m (joinL y7 acc (s.txs m.Kind)), p, ((at_ + s.flat.length : Nat) : Int)))
theorem kd_leaf {n : GNode} (h : leaB n = true) : kdN n = 0 := by
  unfold leaB at h; unfold kdN lisB
  rcases Bool.or_eq_true _ _ ▸ h with h | h <;> (have h := of_decide_eq_true h; rw [h]; rfl)
theorem kd_more {n : GNode} {a : UInt8} (h : leaB n = false) (hs : stdB n a = true) (hl : lacS n = false) : 1 ≤ kdN n := by
  have h := Bool.or_eq_false_iff.1 h
  have h4 := of_decide_eq_false h.1
  have h5 := of_decide_eq_false h.2
  have hk := of_decide_eq_true ((Bool.and_eq_true _ _).mp hs).1
  unfold kdN
  by_cases c : lisB n = true
  · rw [if_pos c]
    unfold lacS at hl
    rw [if_pos c] at hl
    have := Bool.or_eq_false_iff.1 hl
    have := of_decide_eq_false this.1
    omega
  · rw [if_neg c]
    have c' : lisB n = false := by simpa using c
    have c := Bool.or_eq_false_iff.1 c'
    have h1 := of_decide_eq_false c.1
    have h2 := of_decide_eq_false c.2
    rw [if_pos (by omega)]; omega
theorem sp_ok {p : GPattern} (hl : p.Body.length ≤ 50) (hS : sS p.Body) : ∀ t : SF, SP p t := by
  intro t
  induction t with
  | nil => trivial
  | cons n k s ihk ihs =>
    refine ⟨?_, ?_⟩
    · intro d fu at_ a r h e hf
      have e0 : p.Body.drop at_ = n :: (k.flat ++ (s.flat ++ r)) := by rw [e]; simp [SF.flat]
      have ha : at_ < p.Body.length := by have := congrArg List.length e0; simp at this; omega
      have e1 : p.Body.drop (at_ + 1) = k.flat ++ (s.flat ++ r) := drop_at (s := [n]) e0
      have hn := hS n (List.mem_of_mem_drop (i := at_) (by rw [e0]; simp))
      cases d with
      | zero => exact h.elim
      | succ d =>
      cases fu with
      | zero => omega
      | succ fu =>
      unfold m_shape_Print_1
      rw [geti_at e0, obind_some, leaf_ok, obind_some]
      unfold trT
      by_cases c : leaB n = true
      · rw [if_pos c, c, cond_true, (lefS_ok hn.1 hn.2.1 hn.2.2.1 hn.2.2.2).1, obind_some, inc_ok (by omega)]
        have hk0 : k.len = 0 := by have := h.2.2.2.1; rw [kd_leaf c] at this; omega
        cases k with
        | nil => rfl
        | cons _ _ _ => simp [SF.len] at hk0
      · have c' : leaB n = false := by simpa using c
        rw [if_neg c, c', cond_false]
        have hk1 := kd_more c' h.1 h.2.1
        have hkd := kdN_le n
        have hke := h.2.2.2.1
        cases k with
        | nil => simp [SF.len] at hke; omega
        | cons m kk ss =>
          have e1' : p.Body.drop (at_ + 1) = (SF.cons m kk ss).flat ++ (s.flat ++ r) := e1
          have e2 : p.Body.drop (at_ + 1 + 1 + kk.flat.length) = ss.flat ++ (s.flat ++ r) := by
            have h1 : p.Body.drop (at_ + 1) = (m :: kk.flat) ++ (ss.flat ++ (s.flat ++ r)) := by rw [e1']; simp [SF.flat]
            have := drop_at h1
            rw [List.length_cons] at this
            rw [show at_ + 1 + 1 + kk.flat.length = at_ + 1 + (kk.flat.length + 1) by omega]; exact this
          have hfl : (SF.cons m kk ss).flat.length = kk.flat.length + ss.flat.length + 1 := by simp [SF.flat]
          have hbl : at_ + 1 + (SF.cons m kk ss).flat.length ≤ p.Body.length := by
            have := congrArg List.length e1'
            rw [List.length_drop, List.length_append] at this; omega
          have hSk : sS (SF.cons m kk ss).flat := fun x hx => hS x (List.mem_of_mem_drop (i := at_ + 1) (by rw [e1']; exact List.mem_append_left _ hx))
          have hw := wid_ok h.2.2.2.2.1 hSk
          have hlen1 : (trT n.Kind m (kk.txs m.Kind)).length + wid (ss.txs n.Kind) ≤ 1000000 := by
            simp only [wid, SF.txs, List.map_cons, List.sum_cons] at *
            omega
          have hok := h.2.2.2.2.1
          cases d with
          | zero => exact hok.elim
          | succ d =>
          have a1 := ihk.1 (d + 1) fu (at_ + 1) n.Kind (s.flat ++ r) hok e1' (by omega)
          have a2 : ∀ y7 : Bts, y7.length ≤ 3 → _ := fun y7 h7 => ihk.2 (d + 1) fu 1152921504606846976 (at_ + 1 + 1 + kk.flat.length) 0 (kdN n) a n y7 (trT n.Kind m (kk.txs m.Kind)) (s.flat ++ r) hok.2.2.2.2.2 e2 (by omega) (show ss.len < 1152921504606846976 by simp [SF.len] at hke; omega) (by simp [SF.len] at hke; omega) hkd h.2.1 h7 hlen1
          have j3 : ∀ y7 : Bts, y7.length ≤ 3 → m_shape_Print_1_j3 a p (at_ : Int) n (fun p0 p1 p2 => m_shape_Print_1 fu p0 p1 p2) y7 = some (finT a n (joinL y7 (trT n.Kind m (kk.txs m.Kind)) (ss.txs n.Kind)), p, ((at_ + 1 + (SF.cons m kk ss).flat.length : Nat) : Int)) := fun y7 h7 => by
            unfold m_shape_Print_1_j3
            rw [inc_ok (by omega)]
            show Option.bind (m_shape_Print_1 fu n.Kind p ((at_ + 1 : Nat) : Int)) _ = _
            rw [a1, obind_some, skids_ok, obind_some]
            rw [hfl, show at_ + 1 + (kk.flat.length + ss.flat.length + 1) = at_ + 1 + 1 + kk.flat.length + ss.flat.length by omega]
            exact a2 y7 h7
          rw [j3 _ (by decide), j3 _ (by decide), ik2]
          unfold sepS
          by_cases c2 : kS n = 2
          · rw [decide_eq_true c2, if_pos c2]; rfl
          · rw [decide_eq_false c2, if_neg c2]; rfl
    · intro d fu fu6 at_ i kd q m y7 acc r h e hf hf6 hkd hk40 hlm h7 hacc
      cases fu6 with
      | zero => omega
      | succ fu6 =>
      cases s with
      | nil =>
        simp only [SF.len] at hkd
        rw [sfin_ok (by omega) hk40 hlm fu6 i (by omega) _ (by omega)]
        rfl
      | cons n2 k2 s2 =>
        simp only [SF.len] at hkd hf6
        have hx : (trT m.Kind n2 (k2.txs n2.Kind)).length + 3 + wid (s2.txs m.Kind) = wid ((SF.cons n2 k2 s2).txs m.Kind) := by simp [wid, SF.txs]
        have hfl : (SF.cons n2 k2 s2).flat.length = k2.flat.length + s2.flat.length + 1 := by simp [SF.flat]
        have a1 := ihs.1 d fu at_ m.Kind r h e (by omega)
        have e2 : p.Body.drop (at_ + 1 + k2.flat.length) = s2.flat ++ r := by
          have h1 : p.Body.drop at_ = (n2 :: k2.flat) ++ (s2.flat ++ r) := by rw [e]; simp [SF.flat]
          have := drop_at h1
          rw [List.length_cons] at this
          rw [show at_ + 1 + k2.flat.length = at_ + (k2.flat.length + 1) by omega]; exact this
        have hok : s2.ok d m.Kind := by
          cases d with
          | zero => exact h.elim
          | succ d => exact h.2.2.2.2.2
        rw [sstp_ok hk40 fu6 i (by omega) _ a1 h7 (by omega)]
        rw [ihs.2 d fu fu6 (at_ + 1 + k2.flat.length) (i + 1) kd q m y7 _ r hok e2 (by omega) (by omega) (by omega) hk40 hlm h7 (by rw [List.length_append, List.length_append]; omega)]
        rw [hfl, show at_ + (k2.flat.length + s2.flat.length + 1) = at_ + 1 + k2.flat.length + s2.flat.length by omega]
        rfl
end Go.Proofs.Ytdpmojhejidhiaa.K

namespace Go.Proofs.Ytdpmojhejidhiaa.K
open Go.RowKit Go.Lib
def wrdM (m : UInt8) : Bts := if m.toNat = 1 then [97, 110, 121] else if m.toNat = 2 then [110, 101, 120, 116] else if m.toNat = 3 then [115, 116, 114, 105, 99, 116] else []
theorem word_ok (m : UInt8) : m_shape_Word m = some (wrdM m) := by
  unfold m_shape_Word wrdM
  by_cases a : m.toNat = 1
  · rw [decide_eq_true (by omega), cond_true, if_pos a]
  rw [decide_eq_false (by omega), cond_false, if_neg a]
  by_cases a : m.toNat = 2
  · rw [decide_eq_true (by omega), cond_true, if_pos a]
  rw [decide_eq_false (by omega), cond_false, if_neg a]
  by_cases a : m.toNat = 3
  · rw [decide_eq_true (by omega), cond_true, if_pos a]
  rw [decide_eq_false (by omega), cond_false, if_neg a]
theorem wrdM_len (m : UInt8) : (wrdM m).length ≤ 6 := by unfold wrdM; split <;> (try split) <;> (try split) <;> simp
def talP (p : GPattern) : Int := if p.Within < 1 then 8 else if 1073741824 < p.Within then 8 else if p.By ≠ [] ∧ nameB p.By = false then 4 else if wrdM p.Mode = [] then 11 else 0
def chkP (p : GPattern) : Int := if 40 < p.Body.length then 5 else if (stre 16 0 p.Body).2 ≠ 0 then (stre 16 0 p.Body).2 else if 0 < (stre 16 0 p.Body).1.length then 5 else talP p
theorem scheck_ok {p : GPattern} (hl : p.Body.length ≤ 50) (hS : sS p.Body) : m_shape_Check p = some (chkP p) := by
  unfold m_shape_Check chkP talP
  by_cases a : 40 < p.Body.length
  · rw [d_lt (by omega), cond_true, if_pos a]
  rw [d_nlt (by omega), cond_false, if_neg a]
  rw [show m_shape_tree 1152921504606846976 p.Body 0 0 = some (stre 16 0 p.Body) from stree_ok (l0 := p.Body) (by omega) hS 16 1152921504606846976 0 p.Body (by omega) (Nat.le_refl _) (List.suffix_refl _), obind_some]
  by_cases b : (stre 16 0 p.Body).2 ≠ 0
  · rw [decide_eq_true b, cond_true, if_pos b]
  rw [decide_eq_false b, cond_false, if_neg b]
  by_cases c : 0 < (stre 16 0 p.Body).1.length
  · rw [d_lt (by omega), cond_true, if_pos c]
  rw [d_nlt (by omega), cond_false, if_neg c]
  by_cases d : p.Within < 1
  · rw [d_lt d, cond_true, if_pos d]
  rw [d_nlt d, cond_false, if_neg d]
  by_cases e : 1073741824 < p.Within
  · rw [d_lt e, cond_true, if_pos e]
  rw [d_nlt e, cond_false, if_neg e, name_ok, obind_some, word_ok, obind_some]
  by_cases f : p.By = []
  · rw [decide_eq_false (by simp [f]), cond_false, if_neg (by simp [f])]
    by_cases g : wrdM p.Mode = []
    · rw [decide_eq_true g, if_pos g]; rfl
    · rw [decide_eq_false g, if_neg g]; rfl
  · rw [decide_eq_true f, cond_true]
    cases hn : nameB p.By with
    | false => rw [if_pos ⟨f, rfl⟩]; rfl
    | true =>
      rw [if_neg (by simp), Bool.not_true, cond_false]
      by_cases g : wrdM p.Mode = []
      · rw [decide_eq_true g, if_pos g]; rfl
      · rw [decide_eq_false g, if_neg g]; rfl
theorem chkP_tree {p : GPattern} (h : chkP p = 0) : ∃ n k, p.Body = (SF.cons n k .nil).flat ∧ (SF.cons n k .nil).ok 16 0 ∧ p.Body.length ≤ 40 ∧ talP p = 0 := by
  unfold chkP at h
  by_cases a : 40 < p.Body.length
  · rw [if_pos a] at h; omega
  rw [if_neg a] at h
  by_cases b : (stre 16 0 p.Body).2 ≠ 0
  · rw [if_pos b] at h; exact absurd h b
  rw [if_neg b] at h
  by_cases c : 0 < (stre 16 0 p.Body).1.length
  · rw [if_pos c] at h; omega
  rw [if_neg c] at h
  obtain ⟨t, h1, h2, h3⟩ := of_stre 16 0 p.Body [] (Prod.ext (List.eq_nil_of_length_eq_zero (by omega)) (by simpa using b))
  match t, h1, h2, h3 with
  | .cons n k .nil, h1, h2, h3 => exact ⟨n, k, by simpa using h2, h3, by omega, h⟩
  | .nil, h1, h2, h3 => simp [SF.len] at h1
  | .cons n k (.cons _ _ _), h1, h2, h3 => simp [SF.len] at h1
theorem chkP_of {p : GPattern} {n : GNode} {k : SF} (h : (SF.cons n k .nil).ok 16 0) (hb : p.Body = (SF.cons n k .nil).flat) (hl : p.Body.length ≤ 40) (ht : talP p = 0) : chkP p = 0 := by
  have e := stre_of (.cons n k .nil) 16 0 [] h
  rw [List.append_nil, ← hb] at e
  have e1 : (stre 16 0 p.Body).2 = 0 ∧ (stre 16 0 p.Body).1 = [] := by
    unfold SF.len SF.len itF at e
    by_cases q : (stre 16 0 p.Body).2 ≠ 0
    · rw [if_pos q] at e; exact absurd (Prod.mk.inj e).2 q
    · rw [if_neg q] at e
      exact ⟨by simpa using q, (Prod.mk.inj e).1⟩
  unfold chkP
  rw [if_neg (by omega), if_neg (by simp [e1.1]), if_neg (by simp [e1.2]), ht]
/-! ### sizes -/
def sscn : Nat → List GNode → Option Nat
  | _, [] => none
  | k, n :: r => if k + kdN n = 1 then some 1 else (sscn (k + kdN n - 1) r).map (· + 1)
def ssiz (l : List GNode) (i : Int) : Int := if i < 0 ∨ (l.length : Int) ≤ i then 0 else (((sscn 1 (l.drop i.toNat)).getD 0 : Nat) : Int)
theorem ssize_l {s : List GNode} (hs : s.length ≤ 1000) : ∀ (fu i k : Nat), s.length - i < fu → i ≤ s.length → 1 ≤ k → k ≤ 1 + 40 * i → m_shape_Size_l2 s fu (k : Int) (i : Int) = some (((match sscn k (s.drop i) with | none => 0 | some j => i + j : Nat)) : Int)
  | 0, i, k, h, _, _, _ => by omega
  | fu + 1, i, k, hf, hi, hk, hk2 => by
    unfold m_shape_Size_l2
    by_cases hlt : i < s.length
    · have hkd := kdN_le s[i]
      rw [decide_eq_true (by omega), cond_true, geti_lt hlt, obind_some, skids_ok, obind_some, drop_cons hlt, sscn]
      have e : IntKind.i64.wrap ((k : Int) + IntKind.i64.wrap ((kdN s[i] : Int) - 1)) = ((k + kdN s[i] : Nat) : Int) - 1 := by
        rw [w64 (n := (kdN s[i] : Int) - 1) (by omega) (by omega), w64 (by omega) (by omega)]; omega
      rw [e]
      by_cases h1 : k + kdN s[i] = 1
      · rw [decide_eq_true (by omega), cond_true, if_pos h1, inc_ok (by omega)]
      · rw [decide_eq_false (by omega), cond_false, if_neg h1, inc_ok (by omega), show ((k + kdN s[i] : Nat) : Int) - 1 = ((k + kdN s[i] - 1 : Nat) : Int) by omega, ssize_l hs fu (i + 1) _ (by omega) (by omega) (by omega) (by omega)]
        cases sscn (k + kdN s[i] - 1) (s.drop (i + 1)) with
        | none => rfl
        | some j => simp only [Option.map_some]; congr 1; omega
    · rw [decide_eq_false (by omega), cond_false, List.drop_of_length_le (by omega), sscn]; rfl
theorem ssize_ok {l : List GNode} (hl : l.length ≤ 1000) (i : Int) : m_shape_Size l i = some (ssiz l i) := by
  unfold m_shape_Size ssiz
  by_cases h0 : i < 0
  · rw [d_lt h0, cond_true, if_pos (.inl h0)]
  · rw [d_nlt h0, cond_false]
    by_cases h1 : (l.length : Int) ≤ i
    · rw [decide_eq_true h1, cond_true, if_pos (.inr h1)]
    · obtain ⟨j, rfl⟩ : ∃ j : Nat, i = (j : Int) := ⟨i.toNat, by omega⟩
      have hc := cut_ok (l := l) (a := j) (b := l.length) (by omega) (Nat.le_refl _)
      rw [List.take_of_length_le (by rw [List.length_drop]; omega)] at hc
      rw [decide_eq_false h1, cond_false, if_neg (by omega), hc, obind_some, Int.toNat_natCast]
      have := ssize_l (s := l.drop j) (by rw [List.length_drop]; omega) 1152921504606846976 0 1 (by rw [List.length_drop]; omega) (Nat.zero_le _) (by omega) (by omega)
      rw [show m_shape_Size_l2 (l.drop j) 1152921504606846976 1 0 = _ from this, List.drop_zero]
      cases sscn 1 (l.drop j) <;> simp
/-! ### the text of a pattern -/
def tlS (p : GPattern) : Bts := [32, 119, 105, 116, 104, 105, 110, 32] ++ decS p.Within ++ (if p.By ≠ [] then [32, 98, 121, 32] ++ p.By else []) ++ [32] ++ wrdM p.Mode
theorem tal_of {p : GPattern} (h : talP p = 0) : 1 ≤ p.Within ∧ p.Within ≤ 1073741824 ∧ (p.By = [] ∨ nameB p.By = true) ∧ wrdM p.Mode ≠ [] := by
  unfold talP at h
  by_cases a : p.Within < 1
  · rw [if_pos a] at h; omega
  rw [if_neg a] at h
  by_cases b : 1073741824 < p.Within
  · rw [if_pos b] at h; omega
  rw [if_neg b] at h
  by_cases c : p.By ≠ [] ∧ nameB p.By = false
  · rw [if_pos c] at h; omega
  rw [if_neg c] at h
  by_cases d : wrdM p.Mode = []
  · rw [if_pos d] at h; omega
  refine ⟨by omega, by omega, ?_, d⟩
  by_cases e : p.By = []
  · exact .inl e
  · exact .inr (by cases hn : nameB p.By with | true => rfl | false => exact absurd ⟨e, hn⟩ c)
theorem tr_len {n : GNode} {k : SF} {d : Nat} {a : UInt8} (h : (SF.cons n k .nil).ok d a) (hS : sS (SF.cons n k .nil).flat) : (trT a n (k.txs n.Kind)).length ≤ 5000 * (SF.cons n k .nil).flat.length := by
  have := wid_ok h hS
  simp only [wid, SF.txs, List.map_cons, List.sum_cons, List.map_nil, List.sum_nil] at this
  omega
theorem sprint_no {p : GPattern} (hl : p.Body.length ≤ 50) (hS : sS p.Body) (h : chkP p ≠ 0) : m_shape_Print p = some [] := by
  unfold m_shape_Print
  rw [scheck_ok hl hS, obind_some, decide_eq_true h]; rfl
theorem sprint_ok {p : GPattern} {n : GNode} {k : SF} (h : (SF.cons n k .nil).ok 16 0) (hb : p.Body = (SF.cons n k .nil).flat) (hl : p.Body.length ≤ 40) (ht : talP p = 0) (hS : sS p.Body) (hby : p.By.length ≤ 40) : m_shape_Print p = some (trT 0 n (k.txs n.Kind) ++ tlS p) := by
  unfold m_shape_Print
  have hsp := (sp_ok (p := p) (by omega) hS (.cons n k .nil)).1 16 1152921504606846976 0 0 [] h (by rw [hb]; simp) (by rw [hb] at hl; simp [SF.flat] at hl; omega)
  have hlen := tr_len h (by rw [← hb]; exact hS)
  rw [← hb] at hlen
  obtain ⟨h1, h2, _, _⟩ := tal_of ht
  obtain ⟨d1, d2⟩ := digits_ok (k := p.Within) (by omega) h2
  have hw := wrdM_len p.Mode
  rw [scheck_ok (by omega) hS, obind_some, chkP_of h hb hl ht, decide_eq_false (by simp), cond_false, show m_shape_Print_1 1152921504606846976 0 p 0 = _ from hsp, obind_some]
  simp only
  rw [app_ok (by simp; omega), obind_some, d1, obind_some, app_ok (by simp; omega), obind_some]
  have j3 : ∀ y : Bts, y.length ≤ 1000000 → m_shape_Print_j3 (trT 0 n (k.txs n.Kind), p, ((0 + 1 + k.flat.length : Nat) : Int)) y = some (y ++ [32] ++ wrdM p.Mode) := fun y hy => by
    unfold m_shape_Print_j3
    rw [app_ok (by simp; omega), obind_some]
    simp only
    rw [word_ok, obind_some, app_ok (by simp; omega), obind_some]
  unfold tlS
  by_cases c : p.By = []
  · rw [decide_eq_false (by simp [c]), cond_false, if_neg (by simp [c]), j3 _ (by simp; omega)]
    simp
  · rw [decide_eq_true c, cond_true, if_pos c, app_ok (by simp; omega), obind_some, app_ok (by simp; omega), obind_some, j3 _ (by simp; omega)]
    simp
/-! ### what a statement takes -/
theorem sown_ok {p : GPattern} (hl : p.Body.length ≤ 1000) (hS : sS p.Body) : m_w13_Own p = some p := by
  have := map_loop (L := fun fu s i => m_w13_Own_l0 p fu s i) (l := p.Body) (f := id) (e := fun s => GPattern.mk s p.Within p.By p.Mode) (by omega) (fun fu s => by unfold m_w13_Own_l0; rw [d_nlt (by omega)]; rfl)
    (fun fu s i h hs => by
      have hn := hS p.Body[i] (List.getElem_mem h)
      conv => lhs; unfold m_w13_Own_l0
      rw [d_lt (by omega), cond_true, geti_lt h, obind_some, own_ok (by omega), obind_some, app_ok (by simp; omega), obind_some, inc_ok (by omega)]; rfl)
  rw [List.map_id] at this; exact this
theorem sover_ok {p : GPattern} (hw : ∀ n ∈ p.Body, wf_GNode n) : ∃ r, m_w13_Over p = some r ∧ (r = 1 ∨ r = 0 ∧ p.Body.length ≤ 50 ∧ p.By.length ≤ 40 ∧ sS p.Body) := by
  unfold m_w13_Over
  by_cases h : 50 < p.Body.length
  · rw [d_lt (by omega)]; exact ⟨1, rfl, .inl rfl⟩
  rw [d_nlt (by omega), cond_false]
  by_cases h4 : 40 < p.By.length
  · rw [d_lt (by omega)]; exact ⟨1, rfl, .inl rfl⟩
  rw [d_nlt (by omega), cond_false]
  have := loop1_0 (L := fun fu i => m_w13_Over_l1 p fu i) (n := p.Body.length) (P := fun i o => ∃ r, o = some r ∧ (r = 1 ∨ r = 0 ∧ sS (p.Body.drop i))) (by omega)
    (fun fu => by unfold m_w13_Over_l1; rw [d_nlt (by omega)]; exact ⟨0, rfl, .inr ⟨rfl, by simp [sS]⟩⟩)
    (fun fu i hi ih => by
      have hwi := hw p.Body[i] (List.getElem_mem hi)
      unfold m_w13_Over_l1
      rw [d_lt (by omega), cond_true, geti_lt hi, obind_some]
      by_cases h1 : 40 < p.Body[i].Var.length
      · rw [d_lt (by omega)]; exact ⟨1, rfl, .inl rfl⟩
      rw [d_nlt (by omega), cond_false, obind_some]
      by_cases h2 : 40 < p.Body[i].Type_.length
      · rw [d_lt (by omega)]; exact ⟨1, rfl, .inl rfl⟩
      rw [d_nlt (by omega), cond_false, obind_some]
      obtain ⟨r0, e0, q0⟩ := over_ok (l := p.Body[i].Test) hwi.Test.2
      rw [e0, obind_some]
      rcases q0 with rfl | ⟨rfl, q0⟩
      · rw [d_lt (by decide)]; exact ⟨1, rfl, .inl rfl⟩
      rw [d_nlt (by decide), cond_false, inc_ok (by omega)]
      obtain ⟨r, e, q⟩ := ih
      refine ⟨r, e, q.imp id fun ⟨q1, q2⟩ => ⟨q1, ?_⟩⟩
      rw [drop_cons hi]
      intro n hn
      rcases List.mem_cons.1 hn with rfl | hn
      · exact ⟨by omega, by omega, q0.1, q0.2⟩
      · exact q2 n hn)
  obtain ⟨r, e, q⟩ := this
  exact ⟨r, e, q.imp id fun q => ⟨q.1, by omega, by omega, by simpa using q.2⟩⟩
theorem sawake_ok : m_w13_awake = some true := by decide +kernel
end Go.Proofs.Ytdpmojhejidhiaa.K

namespace Go.Proofs.Ytdpmojhejidhiaa.K
open Go.RowKit Go.Lib
theorem rword_ok (m : UInt8) : m_r13_Word m = some (wrdM m) := by rw [← word_ok]; rfl
theorem rskids_ok (n : GNode) : m_r13_Kids n = some (kdN n : Int) := by
  unfold m_r13_Kids kdN lisB
  rw [ik1, ik2, ik3]
  by_cases a : kS n = 1
  · rw [decide_eq_true a, cond_true, Bool.true_or, if_pos rfl]; congr 1; omega
  rw [decide_eq_false a, cond_false, Bool.false_or]
  by_cases b : kS n = 2
  · rw [decide_eq_true b, cond_true, if_pos rfl]; congr 1; omega
  rw [decide_eq_false b, cond_false, if_neg (by simp)]
  by_cases c : kS n = 3
  · rw [decide_eq_true c, if_pos c]; rfl
  · rw [decide_eq_false c, if_neg c]; rfl
theorem rssize_l {l : List GNode} (hl : l.length ≤ 1000) (b : Nat) : ∀ (fu i k : Nat), l.length - i < fu → i ≤ l.length → b ≤ i → 1 ≤ k → k ≤ 1 + 40 * i → m_r13_Size_l1 l (b : Int) (fu + 1) (k : Int) (i : Int) = some (((match sscn k (l.drop i) with | none => 0 | some j => i - b + j : Nat)) : Int)
  | 0, i, k, h, _, _, _, _ => by omega
  | fu + 1, i, k, hf, hi, hb, hk, hk2 => by
    conv => lhs; unfold m_r13_Size_l1
    rw [decide_eq_true (by omega), cond_true]
    by_cases hlt : i < l.length
    · have hkd := kdN_le l[i]
      rw [decide_eq_false (by omega), cond_false, geti_lt hlt, obind_some, rskids_ok, obind_some, drop_cons hlt, sscn]
      have e' : IntKind.i64.wrap (IntKind.i64.wrap ((k : Int) - 1) + (kdN l[i] : Int)) = ((k + kdN l[i] : Nat) : Int) - 1 := by
        rw [w64 (n := (k : Int) - 1) (by omega) (by omega), w64 (by omega) (by omega)]; omega
      rw [e', inc_ok (by omega)]
      by_cases h1 : k + kdN l[i] = 1
      · rw [if_pos h1]
        unfold m_r13_Size_l1
        rw [decide_eq_false (by omega), cond_false, w64 (by omega) (by omega)]
        simp only; congr 1; omega
      · rw [if_neg h1, show ((k + kdN l[i] : Nat) : Int) - 1 = ((k + kdN l[i] - 1 : Nat) : Int) by omega, rssize_l hl b fu (i + 1) _ (by omega) (by omega) (by omega) (by omega) (by omega)]
        cases sscn (k + kdN l[i] - 1) (l.drop (i + 1)) with
        | none => rfl
        | some j => simp only [Option.map_some]; congr 1; omega
    · rw [decide_eq_true (by omega), cond_true, List.drop_of_length_le (by omega), sscn]; rfl
theorem rssize_ok {l : List GNode} (hl : l.length ≤ 1000) (i : Int) : m_r13_Size l i = some (ssiz l i) := by
  unfold m_r13_Size ssiz
  by_cases h0 : i < 0
  · rw [d_lt h0, cond_true, if_pos (.inl h0)]
  · rw [d_nlt h0, cond_false]
    by_cases h1 : (l.length : Int) ≤ i
    · rw [decide_eq_true h1, cond_true, if_pos (.inr h1)]
    · obtain ⟨j, rfl⟩ : ∃ j : Nat, i = (j : Int) := ⟨i.toNat, by omega⟩
      rw [decide_eq_false h1, cond_false, if_neg (by omega), Int.toNat_natCast]
      have := rssize_l hl j 1152921504606846975 j 1 (by omega) (by omega) (Nat.le_refl _) (by omega) (by omega)
      rw [show m_r13_Size_l1 l (j : Int) 1152921504606846976 1 (j : Int) = _ from this]
      cases sscn 1 (l.drop j) <;> simp
/-- What a node needs, as an error. -/
def needS (n : GNode) : Int := if lacS n = true then 4 else if morS n = true then 2 else 0
theorem rneeds_ok {n : GNode} (hk : 1 ≤ kS n ∧ kS n ≤ 5) (ht : n.Test.length ≤ 40) (hS : nS n.Test) : m_r13_needs n = some (needS n) := by
  have hp := rpcheck_ok (nB_of ht hS)
  have k5 : kS n = 1 ∨ kS n = 2 ∨ kS n = 3 ∨ kS n = 4 ∨ kS n = 5 := by omega
  have eN : decide (((n.Kind.toNat : Nat) : Int) ≠ 3) = decide (kS n ≠ 3) := decide_eq_decide.2 (by show _ ↔ n.Kind.toNat ≠ 3; omega)
  have eT : decide ((0 : Int) < ((List.length n.Test : Nat) : Int)) = decide (0 < n.Test.length) := decide_eq_decide.2 (by omega)
  rcases k5 with k | k | k | k | k
  · have d1 : decide (((n.Kind.toNat : Nat) : Int) = 1) = true := by rw [ik1, k]; rfl
    have d2 : decide (((n.Kind.toNat : Nat) : Int) = 2) = false := by rw [ik2, k]; rfl
    have d3 : decide (((n.Kind.toNat : Nat) : Int) = 3) = false := by rw [ik3, k]; rfl
    have d4 : decide (((n.Kind.toNat : Nat) : Int) = 4) = false := by rw [ik4, k]; rfl
    have d5 : decide (((n.Kind.toNat : Nat) : Int) = 5) = false := by rw [ik5, k]; rfl
    have e1 : decide (kS n = 1) = true := by rw [k]; rfl
    have e2 : decide (kS n = 2) = false := by rw [k]; rfl
    have e3 : decide (kS n = 3) = false := by rw [k]; rfl
    have e4 : decide (kS n = 4) = false := by rw [k]; rfl
    have e5 : decide (kS n = 5) = false := by rw [k]; rfl
    have dn : decide (((n.Kind.toNat : Nat) : Int) ≠ 3) = true := by rw [eN, k]; rfl
    have en : decide (kS n ≠ 3) = true := by rw [k]; rfl
    have i3 : (kS n = 3) = False := by rw [k]; simp
    unfold m_r13_needs needS lacS morS lisB leaB oftB
    simp only [d1, d2, d3, d4, d5, e1, e2, e3, e4, e5, dn, en, i3, eT, hp, rname_ok, obind_some, cond_true, cond_false, Bool.not_true, Bool.not_false, Bool.true_or, Bool.or_true, Bool.false_or, Bool.or_false, Bool.and_true, Bool.and_false, if_true, if_false, Bool.false_eq_true, m_r13_needs_j4, m_r13_needs_j5, m_r13_needs_j6, m_r13_needs_j7, m_r13_needs_j9, m_r13_needs_j11, m_r13_needs_j12, m_r13_needs_j14, m_r13_needs_j16, m_r13_needs_j17, m_r13_needs_j18, m_r13_needs_j19, m_r13_needs_j21, m_r13_needs_j23, m_r13_needs_j24, m_r13_needs_j28, m_r13_needs_j29, m_r13_needs_j30, m_r13_needs_j31, m_r13_needs_j33, m_r13_needs_j34, m_r13_needs_j36, m_r13_needs_j37, m_r13_needs_j38, m_r13_needs_j40, m_r13_needs_j42, m_r13_needs_j43, m_r13_needs_j44, m_r13_needs_j45, m_r13_needs_j47, m_r13_needs_j48, m_r13_needs_j50, m_r13_needs_j51, m_r13_needs_j52]
    by_cases a : n.Kids < 2
    · simp [a]
    by_cases b : 40 < n.Kids
    · simp [a, b]
    by_cases c : n.Lo = 0 <;> by_cases d : n.Hi = 0 <;> by_cases f : n.Var = [] <;> by_cases g : n.Type_ = [] <;> by_cases h : 0 < n.Test.length <;> simp [a, b, c, d, f, g, h]
  · have d1 : decide (((n.Kind.toNat : Nat) : Int) = 1) = false := by rw [ik1, k]; rfl
    have d2 : decide (((n.Kind.toNat : Nat) : Int) = 2) = true := by rw [ik2, k]; rfl
    have d3 : decide (((n.Kind.toNat : Nat) : Int) = 3) = false := by rw [ik3, k]; rfl
    have d4 : decide (((n.Kind.toNat : Nat) : Int) = 4) = false := by rw [ik4, k]; rfl
    have d5 : decide (((n.Kind.toNat : Nat) : Int) = 5) = false := by rw [ik5, k]; rfl
    have e1 : decide (kS n = 1) = false := by rw [k]; rfl
    have e2 : decide (kS n = 2) = true := by rw [k]; rfl
    have e3 : decide (kS n = 3) = false := by rw [k]; rfl
    have e4 : decide (kS n = 4) = false := by rw [k]; rfl
    have e5 : decide (kS n = 5) = false := by rw [k]; rfl
    have dn : decide (((n.Kind.toNat : Nat) : Int) ≠ 3) = true := by rw [eN, k]; rfl
    have en : decide (kS n ≠ 3) = true := by rw [k]; rfl
    have i3 : (kS n = 3) = False := by rw [k]; simp
    unfold m_r13_needs needS lacS morS lisB leaB oftB
    simp only [d1, d2, d3, d4, d5, e1, e2, e3, e4, e5, dn, en, i3, eT, hp, rname_ok, obind_some, cond_true, cond_false, Bool.not_true, Bool.not_false, Bool.true_or, Bool.or_true, Bool.false_or, Bool.or_false, Bool.and_true, Bool.and_false, if_true, if_false, Bool.false_eq_true, m_r13_needs_j4, m_r13_needs_j5, m_r13_needs_j6, m_r13_needs_j7, m_r13_needs_j9, m_r13_needs_j11, m_r13_needs_j12, m_r13_needs_j14, m_r13_needs_j16, m_r13_needs_j17, m_r13_needs_j18, m_r13_needs_j19, m_r13_needs_j21, m_r13_needs_j23, m_r13_needs_j24, m_r13_needs_j28, m_r13_needs_j29, m_r13_needs_j30, m_r13_needs_j31, m_r13_needs_j33, m_r13_needs_j34, m_r13_needs_j36, m_r13_needs_j37, m_r13_needs_j38, m_r13_needs_j40, m_r13_needs_j42, m_r13_needs_j43, m_r13_needs_j44, m_r13_needs_j45, m_r13_needs_j47, m_r13_needs_j48, m_r13_needs_j50, m_r13_needs_j51, m_r13_needs_j52]
    by_cases a : n.Kids < 2
    · simp [a]
    by_cases b : 40 < n.Kids
    · simp [a, b]
    by_cases c : n.Lo = 0 <;> by_cases d : n.Hi = 0 <;> by_cases f : n.Var = [] <;> by_cases g : n.Type_ = [] <;> by_cases h : 0 < n.Test.length <;> simp [a, b, c, d, f, g, h]
  · have d1 : decide (((n.Kind.toNat : Nat) : Int) = 1) = false := by rw [ik1, k]; rfl
    have d2 : decide (((n.Kind.toNat : Nat) : Int) = 2) = false := by rw [ik2, k]; rfl
    have d3 : decide (((n.Kind.toNat : Nat) : Int) = 3) = true := by rw [ik3, k]; rfl
    have d4 : decide (((n.Kind.toNat : Nat) : Int) = 4) = false := by rw [ik4, k]; rfl
    have d5 : decide (((n.Kind.toNat : Nat) : Int) = 5) = false := by rw [ik5, k]; rfl
    have e1 : decide (kS n = 1) = false := by rw [k]; rfl
    have e2 : decide (kS n = 2) = false := by rw [k]; rfl
    have e3 : decide (kS n = 3) = true := by rw [k]; rfl
    have e4 : decide (kS n = 4) = false := by rw [k]; rfl
    have e5 : decide (kS n = 5) = false := by rw [k]; rfl
    have dn : decide (((n.Kind.toNat : Nat) : Int) ≠ 3) = false := by rw [eN, k]; rfl
    have en : decide (kS n ≠ 3) = false := by rw [k]; rfl
    have i3 : (kS n = 3) = True := by rw [k]; simp
    unfold m_r13_needs needS lacS morS lisB leaB oftB
    simp only [d1, d2, d3, d4, d5, e1, e2, e3, e4, e5, dn, en, i3, eT, hp, rname_ok, obind_some, cond_true, cond_false, Bool.not_true, Bool.not_false, Bool.true_or, Bool.or_true, Bool.false_or, Bool.or_false, Bool.and_true, Bool.and_false, if_true, if_false, Bool.false_eq_true, m_r13_needs_j4, m_r13_needs_j5, m_r13_needs_j6, m_r13_needs_j7, m_r13_needs_j9, m_r13_needs_j11, m_r13_needs_j12, m_r13_needs_j14, m_r13_needs_j16, m_r13_needs_j17, m_r13_needs_j18, m_r13_needs_j19, m_r13_needs_j21, m_r13_needs_j23, m_r13_needs_j24, m_r13_needs_j28, m_r13_needs_j29, m_r13_needs_j30, m_r13_needs_j31, m_r13_needs_j33, m_r13_needs_j34, m_r13_needs_j36, m_r13_needs_j37, m_r13_needs_j38, m_r13_needs_j40, m_r13_needs_j42, m_r13_needs_j43, m_r13_needs_j44, m_r13_needs_j45, m_r13_needs_j47, m_r13_needs_j48, m_r13_needs_j50, m_r13_needs_j51, m_r13_needs_j52]
    by_cases a : n.Kids = 1
    · by_cases l0 : n.Lo < 0
      · rw [decide_eq_true l0, cond_true, decide_eq_false (p := 0 ≤ n.Lo ∧ _) (by omega)]; simp [a]
      by_cases l8 : 8 < n.Lo
      · rw [decide_eq_false l0, cond_false, decide_eq_true l8, cond_true, decide_eq_false (p := 0 ≤ n.Lo ∧ _) (by omega)]; simp [a]
      by_cases h0 : n.Hi < 0
      · rw [decide_eq_false l0, cond_false, decide_eq_false l8, cond_false, decide_eq_true h0, cond_true, decide_eq_false (p := 0 ≤ n.Lo ∧ _) (by omega)]; simp [a]
      by_cases h8 : 8 < n.Hi
      · rw [decide_eq_false l0, cond_false, decide_eq_false l8, cond_false, decide_eq_false h0, cond_false, decide_eq_true h8, cond_true, decide_eq_false (p := 0 ≤ n.Lo ∧ _) (by omega)]; simp [a]
      rw [decide_eq_false l0, cond_false, decide_eq_false l8, cond_false, decide_eq_false h0, cond_false, decide_eq_false h8, cond_false]
      have hO : decide (0 ≤ n.Lo ∧ n.Lo ≤ 8 ∧ 0 ≤ n.Hi ∧ n.Hi ≤ 8 ∧ ¬ (n.Lo = 1 ∧ n.Hi = 1) ∧ (n.Hi = 0 ∨ n.Lo ≤ n.Hi)) = decide (¬ (0 < n.Hi ∧ n.Hi < n.Lo) ∧ ¬ (n.Lo = 1 ∧ n.Hi = 1)) := decide_eq_decide.2 (by omega)
      rw [hO]
      by_cases p : 0 < n.Hi <;> by_cases q : n.Hi < n.Lo <;> by_cases r : n.Lo = 1 <;> by_cases t : n.Hi = 1 <;> by_cases f : n.Var = [] <;> by_cases g : n.Type_ = [] <;> by_cases h : 0 < n.Test.length <;> first | (simp [a, p, q, r, t, f, g, h]; done) | (rw [r] at q; simp [a, p, q, r, t, f, g, h]; done) | (rw [t] at q; simp [a, p, q, r, t, f, g, h]; done) | (exfalso; omega)
    · simp [a]
  · have d1 : decide (((n.Kind.toNat : Nat) : Int) = 1) = false := by rw [ik1, k]; rfl
    have d2 : decide (((n.Kind.toNat : Nat) : Int) = 2) = false := by rw [ik2, k]; rfl
    have d3 : decide (((n.Kind.toNat : Nat) : Int) = 3) = false := by rw [ik3, k]; rfl
    have d4 : decide (((n.Kind.toNat : Nat) : Int) = 4) = true := by rw [ik4, k]; rfl
    have d5 : decide (((n.Kind.toNat : Nat) : Int) = 5) = false := by rw [ik5, k]; rfl
    have e1 : decide (kS n = 1) = false := by rw [k]; rfl
    have e2 : decide (kS n = 2) = false := by rw [k]; rfl
    have e3 : decide (kS n = 3) = false := by rw [k]; rfl
    have e4 : decide (kS n = 4) = true := by rw [k]; rfl
    have e5 : decide (kS n = 5) = false := by rw [k]; rfl
    have dn : decide (((n.Kind.toNat : Nat) : Int) ≠ 3) = true := by rw [eN, k]; rfl
    have en : decide (kS n ≠ 3) = true := by rw [k]; rfl
    have i3 : (kS n = 3) = False := by rw [k]; simp
    unfold m_r13_needs needS lacS morS lisB leaB oftB
    simp only [d1, d2, d3, d4, d5, e1, e2, e3, e4, e5, dn, en, i3, eT, hp, rname_ok, obind_some, cond_true, cond_false, Bool.not_true, Bool.not_false, Bool.true_or, Bool.or_true, Bool.false_or, Bool.or_false, Bool.and_true, Bool.and_false, if_true, if_false, Bool.false_eq_true, m_r13_needs_j4, m_r13_needs_j5, m_r13_needs_j6, m_r13_needs_j7, m_r13_needs_j9, m_r13_needs_j11, m_r13_needs_j12, m_r13_needs_j14, m_r13_needs_j16, m_r13_needs_j17, m_r13_needs_j18, m_r13_needs_j19, m_r13_needs_j21, m_r13_needs_j23, m_r13_needs_j24, m_r13_needs_j28, m_r13_needs_j29, m_r13_needs_j30, m_r13_needs_j31, m_r13_needs_j33, m_r13_needs_j34, m_r13_needs_j36, m_r13_needs_j37, m_r13_needs_j38, m_r13_needs_j40, m_r13_needs_j42, m_r13_needs_j43, m_r13_needs_j44, m_r13_needs_j45, m_r13_needs_j47, m_r13_needs_j48, m_r13_needs_j50, m_r13_needs_j51, m_r13_needs_j52]
    by_cases c : n.Lo = 0 <;> by_cases d : n.Hi = 0 <;> by_cases g : n.Kids = 0 <;> cases nameB n.Var <;> cases nameB n.Type_ <;> by_cases h : chkT n.Test = 0 <;> simp [c, d, g, h]
  · have d1 : decide (((n.Kind.toNat : Nat) : Int) = 1) = false := by rw [ik1, k]; rfl
    have d2 : decide (((n.Kind.toNat : Nat) : Int) = 2) = false := by rw [ik2, k]; rfl
    have d3 : decide (((n.Kind.toNat : Nat) : Int) = 3) = false := by rw [ik3, k]; rfl
    have d4 : decide (((n.Kind.toNat : Nat) : Int) = 4) = false := by rw [ik4, k]; rfl
    have d5 : decide (((n.Kind.toNat : Nat) : Int) = 5) = true := by rw [ik5, k]; rfl
    have e1 : decide (kS n = 1) = false := by rw [k]; rfl
    have e2 : decide (kS n = 2) = false := by rw [k]; rfl
    have e3 : decide (kS n = 3) = false := by rw [k]; rfl
    have e4 : decide (kS n = 4) = false := by rw [k]; rfl
    have e5 : decide (kS n = 5) = true := by rw [k]; rfl
    have dn : decide (((n.Kind.toNat : Nat) : Int) ≠ 3) = true := by rw [eN, k]; rfl
    have en : decide (kS n ≠ 3) = true := by rw [k]; rfl
    have i3 : (kS n = 3) = False := by rw [k]; simp
    unfold m_r13_needs needS lacS morS lisB leaB oftB
    simp only [d1, d2, d3, d4, d5, e1, e2, e3, e4, e5, dn, en, i3, eT, hp, rname_ok, obind_some, cond_true, cond_false, Bool.not_true, Bool.not_false, Bool.true_or, Bool.or_true, Bool.false_or, Bool.or_false, Bool.and_true, Bool.and_false, if_true, if_false, Bool.false_eq_true, m_r13_needs_j4, m_r13_needs_j5, m_r13_needs_j6, m_r13_needs_j7, m_r13_needs_j9, m_r13_needs_j11, m_r13_needs_j12, m_r13_needs_j14, m_r13_needs_j16, m_r13_needs_j17, m_r13_needs_j18, m_r13_needs_j19, m_r13_needs_j21, m_r13_needs_j23, m_r13_needs_j24, m_r13_needs_j28, m_r13_needs_j29, m_r13_needs_j30, m_r13_needs_j31, m_r13_needs_j33, m_r13_needs_j34, m_r13_needs_j36, m_r13_needs_j37, m_r13_needs_j38, m_r13_needs_j40, m_r13_needs_j42, m_r13_needs_j43, m_r13_needs_j44, m_r13_needs_j45, m_r13_needs_j47, m_r13_needs_j48, m_r13_needs_j50, m_r13_needs_j51, m_r13_needs_j52]
    by_cases c : n.Lo = 0 <;> by_cases d : n.Hi = 0 <;> by_cases g : n.Kids = 0 <;> cases nameB n.Var <;> cases nameB n.Type_ <;> by_cases h : chkT n.Test = 0 <;> simp [c, d, g, h]
end Go.Proofs.Ytdpmojhejidhiaa.K

namespace Go.Proofs.Ytdpmojhejidhiaa.K
open Go.RowKit Go.Lib
theorem rl8_ok {l : List GNode} (hl : l.length ≤ 1000) {p3 : Int} (h1 : 0 ≤ p3) (h2 : p3 ≤ 16) {n : GNode} {K : List GNode → Int → UInt8 → Int → Option (Int × Int)} {f : List GNode → List GNode × Int}
    (ih : ∀ z : Nat, z ≤ l.length → ∃ c, K l (z : Int) n.Kind (p3 + 1) = some (c, (f (l.drop z)).2) ∧ ((f (l.drop z)).2 = 0 → ∃ y : Nat, c = (y : Int) ∧ y ≤ l.length ∧ l.drop y = (f (l.drop z)).1)) :
    ∀ (fu i z : Nat), kdN n - i < fu → i ≤ kdN n → z ≤ l.length → ∃ c, m_r13_tree_l8 l p3 n K fu (z : Int) (i : Int) = some (c, (itF f (kdN n - i) (l.drop z)).2) ∧ ((itF f (kdN n - i) (l.drop z)).2 = 0 → ∃ y : Nat, c = (y : Int) ∧ y ≤ l.length ∧ l.drop y = (itF f (kdN n - i) (l.drop z)).1)
  | 0, i, z, h, _, _ => by omega
  | fu + 1, i, z, h, hi, hz => by
    have hk := kdN_le n
    unfold m_r13_tree_l8
    rw [rskids_ok, obind_some, show IntKind.i64.wrap (p3 + 1) = p3 + 1 from w64 (by omega) (by omega)]
    by_cases c : i < kdN n
    · have g0 : i ≤ 9223372036854775806 := by omega
      have g1 : kdN n - (i + 1) < fu := by omega
      have g2 : i + 1 ≤ kdN n := by omega
      have g3 : kdN n - i = (kdN n - (i + 1)) + 1 := by omega
      obtain ⟨y, e, hy⟩ := ih z hz
      rw [decide_eq_true (by omega), cond_true, e, obind_some, g3, itF]
      by_cases q : (f (l.drop z)).2 = 0
      · obtain ⟨y', rfl, hy1, hy2⟩ := hy q
        rw [decide_eq_false (by simp [q]), cond_false, if_neg (by simp [q]), inc_ok g0, ← hy2]
        exact rl8_ok hl h1 h2 ih fu (i + 1) y' g1 g2 hy1
      · rw [decide_eq_true q, cond_true, if_pos q]
        exact ⟨_, rfl, fun h => absurd h q⟩
    · rw [decide_eq_false (by omega), cond_false, show kdN n - i = 0 by omega]
      exact ⟨_, rfl, fun _ => ⟨z, rfl, hz, rfl⟩⟩
theorem rstd_ok (n : GNode) (a : UInt8) (p1 : Int) (X : Option (Int × Int)) : (cond (decide (((n.Kind.toNat : Nat) : Int) < 1)) (some (p1, 11)) (cond (decide ((5 : Int) < ((n.Kind.toNat : Nat) : Int))) (some (p1, 11)) (cond (decide (((n.Kind.toNat : Nat) : Int) = ((a.toNat : Nat) : Int)) ) (cond (decide (((a.toNat : Nat) : Int) ≤ 2)) (some (p1, 11)) (cond (decide (((n.Kind.toNat : Nat) : Int) = 5)) (cond (decide (((a.toNat : Nat) : Int) = 3)) (some (p1, 11)) X) X)) (cond (decide (((n.Kind.toNat : Nat) : Int) = 5)) (cond (decide (((a.toNat : Nat) : Int) = 3)) (some (p1, 11)) X) X)))) = if stdB n a = false then some (p1, 11) else X := by
  have hk : kS n = n.Kind.toNat := rfl
  unfold stdB lisB
  generalize n.Kind.toNat = k at *
  rw [hk]
  generalize a.toNat = b
  have e1 : decide ((k : Int) = (b : Int)) = decide (k = b) := decide_eq_decide.2 (by omega)
  by_cases h0 : k < 1
  · rw [decide_eq_true (by omega), cond_true, decide_eq_false (p := 1 ≤ k ∧ k ≤ 5) (by omega)]; rfl
  rw [decide_eq_false (by omega), cond_false]
  by_cases h5 : 5 < k
  · rw [decide_eq_true (by omega), cond_true, decide_eq_false (p := 1 ≤ k ∧ k ≤ 5) (by omega)]; rfl
  rw [decide_eq_false (by omega), cond_false, decide_eq_true (p := 1 ≤ k ∧ k ≤ 5) (by omega), Bool.true_and, e1]
  have e2 : decide ((b : Int) ≤ 2) = decide (b ≤ 2) := decide_eq_decide.2 (by omega)
  have e3 : decide ((b : Int) = 3) = decide (b = 3) := decide_eq_decide.2 (by omega)
  have e5 : decide ((k : Int) = 5) = decide (k = 5) := decide_eq_decide.2 (by omega)
  rw [e2, e3, e5]
  have k5 : k = 1 ∨ k = 2 ∨ k = 3 ∨ k = 4 ∨ k = 5 := by omega
  by_cases q : b ≤ 5
  · have b5 : b = 0 ∨ b = 1 ∨ b = 2 ∨ b = 3 ∨ b = 4 ∨ b = 5 := by omega
    rcases k5 with rfl | rfl | rfl | rfl | rfl <;> rcases b5 with rfl | rfl | rfl | rfl | rfl | rfl <;> rfl
  · have q1 : ¬ k = b := by omega
    have q2 : ¬ b = 3 := by omega
    rw [decide_eq_false q1, decide_eq_false q2, cond_false, cond_false, decide_eq_true (p := k ≠ b) q1, decide_eq_true (p := b ≠ 3) q2]
    rcases k5 with rfl | rfl | rfl | rfl | rfl <;> rfl
theorem rstree_ok {l : List GNode} (hl : l.length ≤ 1000) (hS : sS l) : ∀ (d fu at_ : Nat) (a : UInt8), d < fu → d ≤ 16 → at_ ≤ l.length →
    ∃ c, m_r13_tree fu l (at_ : Int) a ((16 - d : Nat) : Int) = some (c, (stre d a (l.drop at_)).2) ∧ ((stre d a (l.drop at_)).2 = 0 → ∃ z : Nat, c = (z : Int) ∧ z ≤ l.length ∧ l.drop z = (stre d a (l.drop at_)).1)
  | d, 0, at_, a, h, _, _ => by omega
  | d, fu + 1, at_, a, hf, hd, ha => by
    unfold m_r13_tree
    by_cases hlt : at_ < l.length
    · rw [decide_eq_false (by omega), cond_false, drop_cons hlt]
      have hn := hS l[at_] (List.getElem_mem hlt)
      cases d with
      | zero =>
        rw [decide_eq_true (by omega), cond_true]
        exact ⟨_, rfl, fun h => by simp [stre] at h⟩
      | succ d =>
        rw [decide_eq_false (by omega), cond_false, geti_lt hlt, obind_some]
        unfold m_r13_tree_j3 m_r13_tree_j4 m_r13_tree_j5
        rw [rstd_ok, stre]
        by_cases h1 : stdB l[at_] a = false
        · rw [if_pos h1, if_pos h1]; exact ⟨_, rfl, fun h => by simp at h⟩
        rw [if_neg h1, if_neg h1]
        have h1' : stdB l[at_] a = true := by simpa using h1
        have hk := of_decide_eq_true ((Bool.and_eq_true _ _).mp h1').1
        unfold m_r13_tree_j6
        rw [rneeds_ok hk hn.2.2.1 hn.2.2.2, obind_some]
        unfold needS
        by_cases h2 : lacS l[at_] = true
        · rw [if_pos h2, if_pos h2]; exact ⟨_, rfl, fun h => by simp at h⟩
        rw [if_neg h2, if_neg h2]
        by_cases h3 : morS l[at_] = true
        · rw [if_pos h3, if_pos h3]; exact ⟨_, rfl, fun h => by simp at h⟩
        rw [if_neg h3, if_neg h3, decide_eq_false (by simp), cond_false, inc_ok (by omega)]
        have hk' := kdN_le l[at_]
        have := rl8_ok hl (p3 := ((16 - (d + 1) : Nat) : Int)) (by omega) (by omega) (n := l[at_]) (K := fun p0 p1 p2 p3 => m_r13_tree fu p0 p1 p2 p3) (f := stre d l[at_].Kind) (fun z hz => by
          have := rstree_ok hl hS d fu z l[at_].Kind (by omega) (by omega) hz
          rw [show ((16 - (d + 1) : Nat) : Int) + 1 = ((16 - d : Nat) : Int) by omega]
          exact this) 1152921504606846976 0 (at_ + 1) (by omega) (Nat.zero_le _) (by omega)
        rw [Nat.sub_zero] at this
        exact this
    · rw [decide_eq_true (by omega), cond_true, List.drop_of_length_le (by omega)]
      exact ⟨_, by cases d <;> rfl, fun h => by cases d <;> simp [stre] at h⟩
theorem rscheck_ok {p : GPattern} (hl : p.Body.length ≤ 50) (hS : sS p.Body) : m_r13_Check p = some (chkP p) := by
  unfold m_r13_Check m_r13_Check_j5 chkP talP
  by_cases a : 40 < p.Body.length
  · rw [d_lt (by omega), cond_true, if_pos a]
  rw [d_nlt (by omega), cond_false, if_neg a]
  obtain ⟨c, hc, hc2⟩ := rstree_ok (l := p.Body) (by omega) hS 16 1152921504606846976 0 0 (by omega) (Nat.le_refl _) (Nat.zero_le _)
  rw [List.drop_zero] at hc hc2
  rw [show m_r13_tree 1152921504606846976 p.Body 0 0 0 = _ from hc, obind_some]
  simp only
  by_cases b : (stre 16 0 p.Body).2 ≠ 0
  · rw [decide_eq_true b, cond_true, if_pos b]
  obtain ⟨z, rfl, hz, hd⟩ := hc2 (by simpa using b)
  have hdl := congrArg List.length hd
  rw [List.length_drop] at hdl
  rw [decide_eq_false b, cond_false, if_neg b]
  by_cases c : 0 < (stre 16 0 p.Body).1.length
  · rw [d_lt (by omega), cond_true, if_pos c]
  rw [d_nlt (by omega), cond_false, if_neg c]
  by_cases d : p.Within < 1
  · rw [d_lt d, cond_true, if_pos d]
  rw [d_nlt d, cond_false, if_neg d]
  by_cases e : 1073741824 < p.Within
  · rw [d_lt e, cond_true, if_pos e]
  rw [d_nlt e, cond_false, if_neg e, rname_ok, obind_some, rword_ok, obind_some]
  by_cases f : p.By = []
  · rw [decide_eq_false (by simp [f]), cond_false, if_neg (by simp [f])]
    by_cases g : wrdM p.Mode = []
    · rw [decide_eq_true g, if_pos g]; rfl
    · rw [decide_eq_false g, if_neg g]; rfl
  · rw [decide_eq_true f, cond_true]
    cases hn : nameB p.By with
    | false => rw [if_pos ⟨f, rfl⟩]; rfl
    | true =>
      rw [if_neg (by simp), Bool.not_true, cond_false]
      by_cases g : wrdM p.Mode = []
      · rw [decide_eq_true g, if_pos g]; rfl
      · rw [decide_eq_false g, if_neg g]; rfl
end Go.Proofs.Ytdpmojhejidhiaa.K

namespace Go.Proofs.Ytdpmojhejidhiaa.K
open Go.RowKit Go.Lib
theorem rnumber_ok {k : Int} (h1 : 0 ≤ k) (h2 : k ≤ 1073741824) : m_r13_number k = some (decS k) := by
  have e : max (-4611686018427387904) (min 4611686018427387904 k) = k := by omega
  have e' : max (-4611686018427387904) (min k 4611686018427387904) = k := by omega
  have hc : chkV (GValue.mk 1 k 0 []) = 0 := by unfold chkV; simp; omega
  have hl : litS (GValue.mk 1 k 0 []) = decS k := by unfold litS; rw [if_neg (by simp [hc])]; rfl
  unfold m_r13_number m_r04_OfInt
  rw [obind_some]
  first | rw [e] | rw [e']
  rw [rlit_ok (show u64B (0 : Int) from ⟨by decide, by decide⟩), obind_some, hl]
theorem rtimes_ok {n : GNode} (h : oftB n = true) : m_r13_times n.Lo n.Hi = some (timS n) := by
  have h := of_decide_eq_true h
  have d1 := rnumber_ok (k := n.Lo) (by omega) (by omega)
  have d2 := rnumber_ok (k := n.Hi) (by omega) (by omega)
  have l1 := (digits_ok (k := n.Lo) (by omega) (by omega)).2
  have l2 := (digits_ok (k := n.Hi) (by omega) (by omega)).2
  unfold m_r13_times m_r13_times_j1 m_r13_times_j3 m_r13_times_j5 timS
  rw [d1, d2]
  simp only [obind_some]
  rw [app_ok (l := [123]) (r := decS n.Lo) (by simp; omega)]
  simp only [obind_some]
  rw [app_ok (l := [123] ++ decS n.Lo) (r := [44, 125]) (by simp; omega), app_ok (l := [123] ++ decS n.Lo) (r := [125]) (by simp; omega), app_ok (l := [123] ++ decS n.Lo) (r := [44]) (by simp; omega)]
  simp only [obind_some]
  rw [app_ok (l := [123] ++ decS n.Lo ++ [44]) (r := decS n.Hi) (by simp; omega)]
  simp only [obind_some]
  rw [app_ok (l := [123] ++ decS n.Lo ++ [44] ++ decS n.Hi) (r := [125]) (by simp; omega)]
  simp only [obind_some]
  by_cases a : n.Lo = 1 <;> by_cases b : n.Lo = 0 <;> by_cases c : n.Hi = 0 <;> by_cases d : n.Hi = 1 <;> by_cases e : n.Hi = n.Lo <;> first | (exfalso; omega) | (simp [a, b, c, d, e]; done) | (simp [a, b, c, d, e, show ¬ (0 : Int) = n.Lo by omega]; done)
end Go.Proofs.Ytdpmojhejidhiaa.K

namespace Go.Proofs.Ytdpmojhejidhiaa.K
open Go.RowKit Go.Lib
theorem rprT_ok {l : List GNode_} (hl : l.length ≤ 40) (hS : nS l) : m_r11_Print l = some (prT l) := by
  obtain ⟨s, h, h2, _⟩ := print_ok hl hS
  unfold prT
  rw [h]; exact h2
theorem ge4 {n : GNode} (hk : 1 ≤ kS n ∧ kS n ≤ 5) : decide ((4 : Int) ≤ ((n.Kind.toNat : Nat) : Int)) = leaB n := by
  have e : n.Kind.toNat = kS n := rfl
  unfold leaB
  rw [← Bool.decide_or]
  exact decide_eq_decide.2 (by omega)
theorem rleaf_ok {l : List GNode} {n : GNode} {at_ : Nat} (ha : at_ ≤ 1000000) (hg : geti l (at_ : Int) = some n) (c : leaB n = true) (hk : 1 ≤ kS n ∧ kS n ≤ 5) (h1 : n.Var.length ≤ 40) (h2 : n.Type_.length ≤ 40) (ht : n.Test.length ≤ 40) (hS : nS n.Test) (fu : Nat) :
    m_r13_text (fu + 1) l (at_ : Int) = some (lefS n, ((at_ + 1 : Nat) : Int)) := by
  have p2 := (prT_ok ht hS).2
  have j3 : ∀ y : Bts, y.length ≤ 100 → m_r13_text_j3 (at_ : Int) n y = some (y ++ (if 0 < n.Test.length then [91] ++ prT n.Test ++ [93] else []), ((at_ + 1 : Nat) : Int)) := fun y hy => by
    unfold m_r13_text_j3
    rw [inc_ok (by omega)]
    by_cases q : 0 < n.Test.length
    · rw [decide_eq_true (by omega), cond_true, if_pos q, app_ok (by simp; omega), obind_some, rprT_ok ht hS, obind_some, app_ok (by simp; omega), obind_some, app_ok (by simp; omega), obind_some]
      simp
    · rw [decide_eq_false (by omega), cond_false, if_neg q, List.append_nil]
  unfold m_r13_text
  rw [hg, obind_some, ge4 hk, c, cond_true, app_ok (by simp; omega), obind_some, app_ok (by simp; omega), obind_some, ik5]
  unfold lefS
  by_cases q : kS n = 5
  · rw [decide_eq_true q, cond_true, if_pos q, app_ok (by simp; omega), obind_some, j3 _ (by simp; omega)]
  · rw [decide_eq_false q, cond_false, if_neg q, j3 _ (by simp; omega), List.nil_append]
theorem tr_par {a : UInt8} {n : GNode} {ts : List Bts} (h : leaB n = false) (ht : ts ≠ []) : trT a n ts = par (decide (a.toNat = 3) || (decide (a.toNat = 1) && decide (kS n = 2))) (trT 0 n ts) := by
  unfold trT
  rw [if_neg (by simp [h]), if_neg (by simp [h])]
  cases ts with
  | nil => exact absurd rfl ht
  | cons x xs => rfl
theorem tr_leaf {a : UInt8} {n : GNode} {ts : List Bts} (h : leaB n = true) : trT a n ts = trT 0 n ts := by
  unfold trT
  rw [if_pos h, if_pos h]
theorem rj15 {m : GNode} {T x acc : Bts} {z : Int} {i : Nat} {Kc : Bts → Int → Int → Option (Bts × Int)} (hi : i ≤ 1000) (h3 : kS m ≠ 1 → kS m ≠ 2 → i = 0) (hlen : acc.length + x.length ≤ 1000000) :
    m_r13_text_j15 (T, z) m (i : Int) acc Kc x = Kc (if i = 0 then acc ++ x else acc ++ (sepS m ++ x)) z ((i + 1 : Nat) : Int) := by
  unfold m_r13_text_j15
  rw [inc_ok (by omega), ik1]
  by_cases c : i = 0
  · rw [decide_eq_false (by omega), cond_false, cond_false, if_pos c, app_ok (by omega), obind_some]
  · rw [decide_eq_true (by omega), cond_true, cond_true, if_neg c]
    by_cases k : kS m = 1
    · rw [decide_eq_true k, cond_true, app_ok (by simp; omega), obind_some, app_ok (by simp; omega), obind_some]
      unfold sepS
      rw [if_neg (by omega), List.append_assoc]
    · have k2 : kS m = 2 := Classical.byContradiction fun k2 => c (h3 k k2)
      rw [decide_eq_false k, cond_false, app_ok (by simp; omega), obind_some, app_ok (by simp; omega), obind_some]
      unfold sepS
      rw [if_pos k2, List.append_assoc]
theorem rstep {l : List GNode} {m n : GNode} {K : List GNode → Int → Option (Bts × Int)} {ts : List Bts} {at_ z : Int} {i : Nat} {acc : Bts} (hk : kS m = 1 ∨ kS m = 2 ∨ kS m = 3) (hstd : stdB n m.Kind = true) (hi : i < kdN m)
    (hg : geti l at_ = some n) (hK : K l at_ = some (trT 0 n ts, z)) (hp : leaB n = false → ts ≠ []) (hlen : acc.length + (trT m.Kind n ts).length ≤ 1000000) (fu : Nat) :
    m_r13_text_l6 l m K (fu + 1) acc at_ (i : Int) = m_r13_text_l6 l m K fu (if i = 0 then acc ++ trT m.Kind n ts else acc ++ (sepS m ++ trT m.Kind n ts)) z ((i + 1 : Nat) : Int) := by
  have hkd := kdN_le m
  have h3 : kS m ≠ 1 → kS m ≠ 2 → i = 0 := fun q1 q2 => by
    have q3 : kS m = 3 := by omega
    unfold kdN lisB at hi
    rw [q3] at hi
    simp at hi
    exact hi
  have em : m.Kind.toNat = kS m := rfl
  have lea : leaB n = decide (4 ≤ kS n) := by
    have := of_decide_eq_true ((Bool.and_eq_true _ _).mp hstd).1
    unfold leaB
    rw [← Bool.decide_or]
    exact decide_eq_decide.2 (by omega)
  conv => lhs; unfold m_r13_text_l6
  rw [rskids_ok, obind_some, decide_eq_true (by omega), cond_true, hg, obind_some, hK, obind_some, ik1, ik3, ik2]
  have tp : ∀ b, par b (trT 0 n ts) = trT m.Kind n ts → b = true → ∀ Kc : Bts → Int → Int → Option (Bts × Int), (Option.bind (app ([40] : List UInt8) (trT 0 n ts)) fun t82 => Option.bind (app t82 ([41] : List UInt8)) fun t83 => m_r13_text_j15 (trT 0 n ts, z) m (i : Int) acc Kc t83) = Kc (if i = 0 then acc ++ trT m.Kind n ts else acc ++ (sepS m ++ trT m.Kind n ts)) z ((i + 1 : Nat) : Int) := fun b e hb Kc => by
    subst hb
    have e' : [40] ++ trT 0 n ts ++ [41] = trT m.Kind n ts := by rw [← e]; first | rfl | (unfold par; simp)
    have el := congrArg List.length e'
    simp at el
    rw [app_ok (by simp; omega), obind_some, app_ok (by simp; omega), obind_some, e', rj15 (by omega) h3 hlen]
  rcases hk with k | k | k
  · rw [decide_eq_true k, cond_true, decide_eq_false (p := kS m = 3) (by omega), cond_false]
    by_cases c : kS n = 2
    · rw [decide_eq_true c, cond_true]
      have hl : leaB n = false := by rw [lea]; exact decide_eq_false (by omega)
      exact tp _ (tr_par hl (hp hl)).symm (by rw [em, k, c]; rfl) _
    · rw [decide_eq_false c, cond_false]
      unfold m_r13_text_j12
      have e : trT 0 n ts = trT m.Kind n ts := by
        cases hl : leaB n with
        | true => exact (tr_leaf hl).symm
        | false => rw [tr_par (a := m.Kind) hl (hp hl), em, k, decide_eq_false c]; rfl
      simp only
      rw [e, rj15 (by omega) h3 hlen]
  · rw [decide_eq_false (p := kS m = 1) (by omega), cond_false, decide_eq_false (p := kS m = 3) (by omega), cond_false]
    unfold m_r13_text_j12
    have e : trT 0 n ts = trT m.Kind n ts := by
      cases hl : leaB n with
      | true => exact (tr_leaf hl).symm
      | false => rw [tr_par (a := m.Kind) hl (hp hl), em, k]; rfl
    simp only
    rw [e, rj15 (by omega) h3 hlen]
  · rw [decide_eq_false (p := kS m = 1) (by omega), cond_false, decide_eq_true k, cond_true]
    unfold m_r13_text_j11
    rw [show decide (((n.Kind.toNat : Nat) : Int) ≠ 4) = decide (kS n ≠ 4) from decide_eq_decide.2 (by have : n.Kind.toNat = kS n := rfl; omega)]
    by_cases c : kS n = 4
    · have hl : leaB n = true := by rw [lea]; exact decide_eq_true (by omega)
      rw [decide_eq_false (by omega), cond_false]
      simp only
      rw [← tr_leaf (a := m.Kind) hl, rj15 (by omega) h3 hlen]
    · have hl : leaB n = false := by
        rw [lea]; refine decide_eq_false ?_
        have hs := (Bool.and_eq_true _ _).mp hstd
        have hr := of_decide_eq_true hs.1
        have h2 := hs.2
        unfold lisB at h2
        intro h4
        have h5 : kS n = 5 := by omega
        rw [h5, em, k] at h2
        simp at h2
      rw [decide_eq_true c, cond_true]
      exact tp _ (tr_par hl (hp hl)).symm (by rw [em, k]; rfl) _
theorem rfin {l : List GNode} {m : GNode} {K : List GNode → Int → Option (Bts × Int)} {i : Nat} {acc : Bts} {at_ : Int} (hi : kdN m ≤ i) (hl : lacS m = false) (hlen : acc.length ≤ 1000000) (fu : Nat) :
    m_r13_text_l6 l m K (fu + 1) acc at_ (i : Int) = some (finT 0 m acc, at_) := by
  unfold m_r13_text_l6
  rw [rskids_ok, obind_some, decide_eq_false (by omega), cond_false, ik3]
  unfold finT
  by_cases c : kS m = 3
  · have ho := lac_rep c hl
    have t2 := (times_ok ho).2
    rw [decide_eq_true c, cond_true, rtimes_ok ho, obind_some, app_ok (by omega), obind_some, if_pos c]; rfl
  · rw [decide_eq_false c, cond_false, if_neg c, List.append_nil]; rfl
/-- What the document's walk over a wood does: its first tree, and those beside it. -/
def RP (l : List GNode) : SF → Prop
  | .nil => True
  | .cons n k s => (∀ (d fu at_ : Nat) (a : UInt8) (r : List GNode), (SF.cons n k s).ok d a → l.drop at_ = (SF.cons n k s).flat ++ r → k.flat.length + 1 < fu → m_r13_text fu l (at_ : Int) = some (trT 0 n (k.txs n.Kind), ((at_ + 1 + k.flat.length : Nat) : Int))) ∧
    (∀ (d fu fu6 at_ i : Nat) (m : GNode) (acc : Bts) (r : List GNode), s.ok d m.Kind → l.drop at_ = s.flat ++ r → s.flat.length + 1 < fu → s.len < fu6 → kdN m = i + s.len → 1 ≤ i → (kS m = 1 ∨ kS m = 2 ∨ kS m = 3) → lacS m = false → acc.length + wid (s.txs m.Kind) ≤ 1000000 →
      m_r13_text_l6 l m (fun p0 p1 => m_r13_text fu p0 p1) fu6 acc (at_ : Int) (i : Int) = some (finT 0 m (joinL (sepS m) acc (s.txs m.Kind)), ((at_ + s.flat.length : Nat) : Int)))
theorem txs_ne {n : GNode} {k s : SF} {d : Nat} {a : UInt8} (h : (SF.cons n k s).ok d a) (c : leaB n = false) : k.txs n.Kind ≠ [] := by
  cases d with
  | zero => exact h.elim
  | succ d =>
    have h1 := kd_more c h.1 h.2.1
    have h2 := h.2.2.2.1
    cases k with
    | nil => simp [SF.len] at h2; omega
    | cons m kk ss => simp [SF.txs]
theorem rp_ok {l : List GNode} (hl : l.length ≤ 50) (hS : sS l) : ∀ t : SF, RP l t := by
  intro t
  induction t with
  | nil => trivial
  | cons n k s ihk ihs =>
    refine ⟨?_, ?_⟩
    · intro d fu at_ a r h e hf
      have e0 : l.drop at_ = n :: (k.flat ++ (s.flat ++ r)) := by rw [e]; simp [SF.flat]
      have ha : at_ < l.length := by have := congrArg List.length e0; simp at this; omega
      have e1 : l.drop (at_ + 1) = k.flat ++ (s.flat ++ r) := drop_at (s := [n]) e0
      have hn := hS n (List.mem_of_mem_drop (i := at_) (by rw [e0]; simp))
      have hne := txs_ne h
      cases d with
      | zero => exact h.elim
      | succ d =>
      have hk5 := of_decide_eq_true ((Bool.and_eq_true _ _).mp h.1).1
      cases fu with
      | zero => omega
      | succ fu =>
      by_cases c : leaB n = true
      · rw [rleaf_ok (by omega) (geti_at e0) c hk5 hn.1 hn.2.1 hn.2.2.1 hn.2.2.2]
        have hk0 : k.len = 0 := by have := h.2.2.2.1; rw [kd_leaf c] at this; omega
        cases k with
        | nil => unfold trT; rw [if_pos c]; rfl
        | cons _ _ _ => simp [SF.len] at hk0
      · have c' : leaB n = false := by simpa using c
        have hk3 : kS n = 1 ∨ kS n = 2 ∨ kS n = 3 := by
          have := Bool.or_eq_false_iff.1 c'
          have h4 := of_decide_eq_false this.1
          have h5 := of_decide_eq_false this.2
          omega
        unfold m_r13_text
        rw [geti_at e0, obind_some, ge4 hk5, c', cond_false, inc_ok (by omega)]
        have hk1 := kd_more c' h.1 h.2.1
        have hkd := kdN_le n
        have hke := h.2.2.2.1
        cases k with
        | nil => simp [SF.len] at hke; omega
        | cons m kk ss =>
          have e1' : l.drop (at_ + 1) = (SF.cons m kk ss).flat ++ (s.flat ++ r) := e1
          have e2 : l.drop (at_ + 1 + 1 + kk.flat.length) = ss.flat ++ (s.flat ++ r) := by
            have h1 : l.drop (at_ + 1) = (m :: kk.flat) ++ (ss.flat ++ (s.flat ++ r)) := by rw [e1']; simp [SF.flat]
            have := drop_at h1
            rw [List.length_cons] at this
            rw [show at_ + 1 + 1 + kk.flat.length = at_ + 1 + (kk.flat.length + 1) by omega]; exact this
          have hfl : (SF.cons m kk ss).flat.length = kk.flat.length + ss.flat.length + 1 := by simp [SF.flat]
          have hbl : at_ + 1 + (SF.cons m kk ss).flat.length ≤ l.length := by
            have := congrArg List.length e1'
            rw [List.length_drop, List.length_append] at this; omega
          have hSk : sS (SF.cons m kk ss).flat := fun x hx => hS x (List.mem_of_mem_drop (i := at_ + 1) (by rw [e1']; exact List.mem_append_left _ hx))
          have hw := wid_ok h.2.2.2.2.1 hSk
          have hlen1 : (trT n.Kind m (kk.txs m.Kind)).length + wid (ss.txs n.Kind) ≤ 1000000 := by
            simp only [wid, SF.txs, List.map_cons, List.sum_cons] at *
            omega
          have hok := h.2.2.2.2.1
          have hmne := txs_ne hok
          cases d with
          | zero => exact hok.elim
          | succ d =>
          have a1 := ihk.1 (d + 1) fu (at_ + 1) n.Kind (s.flat ++ r) hok e1' (by omega)
          have st := rstep (l := l) (m := n) (n := m) (K := fun p0 p1 => m_r13_text fu p0 p1) (ts := kk.txs m.Kind) (at_ := ((at_ + 1 : Nat) : Int)) (i := 0) (acc := []) hk3 hok.1 (by omega) (geti_at (by rw [e1']; rfl)) a1 hmne (by simp; omega) 1152921504606846975
          have a2 := ihk.2 (d + 1) fu 1152921504606846975 (at_ + 1 + 1 + kk.flat.length) 1 n (trT n.Kind m (kk.txs m.Kind)) (s.flat ++ r) hok.2.2.2.2.2 e2 (by omega) (show ss.len < 1152921504606846975 by simp [SF.len] at hke; omega) (by simp [SF.len] at hke; omega) (Nat.le_refl _) hk3 h.2.1 hlen1
          refine Eq.trans st ?_
          rw [if_pos rfl, List.nil_append]
          refine Eq.trans a2 ?_
          rw [hfl, show at_ + 1 + (kk.flat.length + ss.flat.length + 1) = at_ + 1 + 1 + kk.flat.length + ss.flat.length by omega]
          unfold trT
          rw [if_neg c]
          rfl
    · intro d fu fu6 at_ i m acc r h e hf hf6 hkd hi hk3 hlac hlen
      have hm := kdN_le m
      cases fu6 with
      | zero => omega
      | succ fu6 =>
      cases s with
      | nil =>
        rw [rfin (by simp [SF.len] at hkd; omega) hlac (by omega)]
        rfl
      | cons n' k' s' =>
        have hfl : (SF.cons n' k' s').flat.length = k'.flat.length + s'.flat.length + 1 := by simp [SF.flat]
        have e0 : l.drop at_ = n' :: (k'.flat ++ (s'.flat ++ r)) := by rw [e]; simp [SF.flat]
        have e2 : l.drop (at_ + 1 + k'.flat.length) = s'.flat ++ (r) := by
          have h1 : l.drop at_ = (n' :: k'.flat) ++ (s'.flat ++ r) := by rw [e]; simp [SF.flat]
          have := drop_at h1
          rw [List.length_cons] at this
          rw [show at_ + 1 + k'.flat.length = at_ + (k'.flat.length + 1) by omega]; exact this
        have hne := txs_ne h
        cases d with
        | zero => exact h.elim
        | succ d =>
        have a1 := ihs.1 (d + 1) fu at_ m.Kind r h e (by omega)
        simp only [SF.len] at hkd hf6
        simp only [wid, SF.txs, List.map_cons, List.sum_cons] at hlen
        have st := rstep (l := l) (m := m) (n := n') (K := fun p0 p1 => m_r13_text fu p0 p1) (ts := k'.txs n'.Kind) (at_ := (at_ : Int)) (i := i) (acc := acc) hk3 h.1 (by omega) (geti_at e0) a1 hne (by omega) fu6
        have hsl := sep_len m
        have a2 := ihs.2 (d + 1) fu fu6 (at_ + 1 + k'.flat.length) (i + 1) m (acc ++ (sepS m ++ trT m.Kind n' (k'.txs n'.Kind))) r h.2.2.2.2.2 e2 (by omega) (by omega) (by omega) (by omega) hk3 hlac (by simp only [List.length_append, wid]; omega)
        refine Eq.trans st ?_
        rw [if_neg (by omega)]
        refine Eq.trans a2 ?_
        rw [hfl, show at_ + (k'.flat.length + s'.flat.length + 1) = at_ + 1 + k'.flat.length + s'.flat.length by omega]
        rfl
theorem rsprint_no {p : GPattern} (hl : p.Body.length ≤ 50) (hS : sS p.Body) (h : chkP p ≠ 0) : m_r13_Print p = some [] := by
  unfold m_r13_Print
  rw [rscheck_ok hl hS, obind_some, decide_eq_true h]; rfl
theorem rsprint_ok {p : GPattern} {n : GNode} {k : SF} (h : (SF.cons n k .nil).ok 16 0) (hb : p.Body = (SF.cons n k .nil).flat) (hl : p.Body.length ≤ 40) (ht : talP p = 0) (hS : sS p.Body) (hby : p.By.length ≤ 40) : m_r13_Print p = some (trT 0 n (k.txs n.Kind) ++ tlS p) := by
  unfold m_r13_Print
  have hsp := (rp_ok (l := p.Body) (by omega) hS (.cons n k .nil)).1 16 1152921504606846976 0 0 [] h (by rw [hb]; simp) (by rw [hb] at hl; simp [SF.flat] at hl; omega)
  have hlen := tr_len h (by rw [← hb]; exact hS)
  rw [← hb] at hlen
  obtain ⟨h1, h2, _, _⟩ := tal_of ht
  have d2 := (digits_ok (k := p.Within) (by omega) h2).2
  have hw := wrdM_len p.Mode
  rw [rscheck_ok (by omega) hS, obind_some, chkP_of h hb hl ht, decide_eq_false (by simp), cond_false, show m_r13_text 1152921504606846976 p.Body 0 = _ from hsp, obind_some]
  simp only
  rw [app_ok (by simp; omega), obind_some, rnumber_ok (by omega) h2, obind_some, app_ok (by simp; omega), obind_some]
  have j4 : ∀ y : Bts, y.length ≤ 1000000 → m_r13_Print_j4 p y = some (y ++ [32] ++ wrdM p.Mode) := fun y hy => by
    unfold m_r13_Print_j4
    rw [app_ok (by simp; omega), obind_some, rword_ok, obind_some, app_ok (by simp; omega), obind_some]
  unfold tlS
  by_cases c : p.By = []
  · rw [decide_eq_false (by simp [c]), cond_false, if_neg (by simp [c]), j4 _ (by simp; omega)]
    simp
  · rw [decide_eq_true c, cond_true, if_pos c, app_ok (by simp; omega), obind_some, app_ok (by simp; omega), obind_some, j4 _ (by simp; omega)]
    simp
end Go.Proofs.Ytdpmojhejidhiaa.K

namespace Go.Proofs.Ytdpmojhejidhiaa.K
open Go.RowKit Go.Lib
theorem tsame_one (n m : GNode) (hl : n.Test.length ≤ 1000000) : m_shape_same n m = some (decide (n = m)) := by
  unfold m_shape_same m_shape_same_j1
  rw [psame_ok hl, obind_some]
  have e : decide (n = m) = (decide (((n.Kind.toNat : Nat) : Int) = ((m.Kind.toNat : Nat) : Int)) && (decide (n.Kids = m.Kids) && (decide (n.Lo = m.Lo) && (decide (n.Hi = m.Hi) && (decide (n.Var = m.Var) && (decide (n.Type_ = m.Type_) && decide (n.Test = m.Test))))))) := by
    obtain ⟨a, b, c, d, f, g, h⟩ := n
    obtain ⟨a', b', c', d', f', g', h'⟩ := m
    simp only [u8i, GNode.mk.injEq, Bool.decide_and]
  rw [e]
  cases decide (((n.Kind.toNat : Nat) : Int) = ((m.Kind.toNat : Nat) : Int)) <;> cases decide (n.Kids = m.Kids) <;> cases decide (n.Lo = m.Lo) <;> cases decide (n.Hi = m.Hi) <;> cases decide (n.Var = m.Var) <;> cases decide (n.Type_ = m.Type_) <;> rfl
def allS (p q : GPattern) : Bool := decide (p.Within = q.Within) && (decide (p.By = q.By) && (decide (((p.Mode.toNat : Nat) : Int) = ((q.Mode.toNat : Nat) : Int)) && decide (p.Body = q.Body)))
theorem tsame_ok {p q : GPattern} (hl : p.Body.length ≤ 1000) (hS : sS p.Body) : m_shape_Same p q = some (allS p q) := by
  unfold m_shape_Same allS
  have hb : m_slices_EqualFunc_Nodeshape_Node_shape_Node_shape_Node__shape_same p.Body q.Body = some (decide (p.Body = q.Body)) := by
    unfold m_slices_EqualFunc_Nodeshape_Node_shape_Node_shape_Node__shape_same
    by_cases h : p.Body.length = q.Body.length
    · rw [decide_eq_false (by simp [h]), cond_false]
      exact eq_loop (L := fun fu i => m_slices_EqualFunc_Nodeshape_Node_shape_Node_shape_Node__shape_same_l2 p.Body q.Body fu i) h (by omega) (fun fu => by unfold m_slices_EqualFunc_Nodeshape_Node_shape_Node_shape_Node__shape_same_l2; rw [d_nlt (by omega)]; rfl)
        (fun fu i h1 h2 => by
          have := (hS p.Body[i] (List.getElem_mem h1)).2.2.1
          conv => lhs; unfold m_slices_EqualFunc_Nodeshape_Node_shape_Node_shape_Node__shape_same_l2
          rw [d_lt (by omega), cond_true, geti_lt h1, obind_some, geti_lt h2, obind_some, tsame_one _ _ (by omega), obind_some, inc_ok (by omega)]
          by_cases e : p.Body[i] = q.Body[i]
          · rw [decide_eq_true e, if_pos e]; rfl
          · rw [decide_eq_false e, if_neg e]; rfl)
    · rw [decide_eq_true (by omega), cond_true, decide_eq_false (fun e => h (by rw [e]))]
  rw [hb, obind_some]
  cases decide (p.Within = q.Within) <;> cases decide (p.By = q.By) <;> cases decide (((p.Mode.toNat : Nat) : Int) = ((q.Mode.toNat : Nat) : Int)) <;> rfl
theorem rtsame_ok {p q : GPattern} (hl : p.Body.length ≤ 1000) (hS : sS p.Body) : m_r13_Same p q = some (allS p q) := by
  unfold m_r13_Same m_r13_Same_j1 allS
  have hb : cond (decide (((List.length p.Body : Nat) : Int) ≠ ((List.length q.Body : Nat) : Int))) (some false) (m_r13_Same_l2 p q 1152921504606846976 0) = some (decide (p.Body = q.Body)) := by
    by_cases h : p.Body.length = q.Body.length
    · rw [decide_eq_false (by simp [h]), cond_false]
      exact eq_loop (L := fun fu i => m_r13_Same_l2 p q fu i) h (by omega) (fun fu => by unfold m_r13_Same_l2; rw [d_nlt (by omega)]; rfl)
        (fun fu i h1 h2 => by
          have ht := (hS p.Body[i] (List.getElem_mem h1)).2.2.1
          conv => lhs; unfold m_r13_Same_l2 m_r13_Same_j6
          rw [d_lt (by omega), cond_true, geti_lt h1, obind_some, geti_lt h2, obind_some, rsame_ok (by omega), obind_some, inc_ok (by omega)]
          generalize m_r13_Same_l2 p q fu ((i + 1 : Nat) : Int) = X
          generalize p.Body[i] = n
          generalize q.Body[i] = m
          have e : decide (n = m) = (decide (((n.Kind.toNat : Nat) : Int) = ((m.Kind.toNat : Nat) : Int)) && (decide (n.Kids = m.Kids) && (decide (n.Lo = m.Lo) && (decide (n.Hi = m.Hi) && (decide (n.Var = m.Var) && (decide (n.Type_ = m.Type_) && decide (n.Test = m.Test))))))) := by
            obtain ⟨a, b, c, d, f, g, h⟩ := n
            obtain ⟨a', b', c', d', f', g', h'⟩ := m
            simp only [u8i, GNode.mk.injEq, Bool.decide_and]
          have ei : (if n = m then X else some false) = cond (decide (n = m)) X (some false) := by
            by_cases q : n = m
            · rw [if_pos q, decide_eq_true q]; rfl
            · rw [if_neg q, decide_eq_false q]; rfl
          have dn : ∀ {P : Prop} [Decidable P], decide (¬ P) = !decide P := fun {P} _ => by by_cases h : P <;> simp [h]
          simp only [ne_eq, dn]
          rw [ei, e]
          cases decide (((n.Kind.toNat : Nat) : Int) = ((m.Kind.toNat : Nat) : Int)) <;> cases decide (n.Kids = m.Kids) <;> cases decide (n.Lo = m.Lo) <;> cases decide (n.Hi = m.Hi) <;> cases decide (n.Var = m.Var) <;> cases decide (n.Type_ = m.Type_) <;> cases decide (n.Test = m.Test) <;> rfl)
    · rw [decide_eq_true (by omega), cond_true, decide_eq_false (fun e => h (by rw [e]))]
  rw [hb]
  have dn : ∀ {P : Prop} [Decidable P], decide (¬ P) = !decide P := fun {P} _ => by by_cases h : P <;> simp [h]
  simp only [ne_eq, dn]
  cases decide (p.Within = q.Within) <;> cases decide (p.By = q.By) <;> cases decide (((p.Mode.toNat : Nat) : Int) = ((q.Mode.toNat : Nat) : Int)) <;> rfl
theorem tprints {p : GPattern} (hl : p.Body.length ≤ 50) (hS : sS p.Body) (hby : p.By.length ≤ 40) : ∃ s, m_shape_Print p = some s ∧ m_r13_Print p = some s := by
  by_cases h : chkP p = 0
  · obtain ⟨n, k, hb, ho, h4, ht⟩ := chkP_tree h
    exact ⟨_, sprint_ok ho hb h4 ht hS hby, rsprint_ok ho hb h4 ht hS hby⟩
  · exact ⟨_, sprint_no hl hS h, rsprint_no hl hS h⟩
theorem main_ShapeTells (x : GArr2_GPattern) (p1 : Int) (hx : wf_GArr2_GPattern x) (hp : -9223372036854775808 ≤ p1 ∧ p1 ≤ 9223372036854775807) : m_w13_ShapeTells x p1 = some true := by
  unfold m_w13_ShapeTells
  obtain ⟨r0, e0, q0⟩ := sover_ok (p := x.a0) hx.a0.Body.2
  rw [e0, obind_some]
  rcases q0 with rfl | ⟨rfl, q0⟩
  · rw [d_lt (by decide), cond_true, sawake_ok]; rfl
  rw [d_nlt (by decide), cond_false]
  obtain ⟨r1, e1, q1⟩ := sover_ok (p := x.a1) hx.a1.Body.2
  rw [e1, obind_some]
  rcases q1 with rfl | ⟨rfl, q1⟩
  · rw [d_lt (by decide), cond_true, sawake_ok]; rfl
  rw [d_nlt (by decide), cond_false, sown_ok (by omega) q0.2.2, obind_some, sown_ok (by omega) q1.2.2, obind_some]
  have hl := q0.1
  refine loop1_0 (L := fun fu i => m_w13_ShapeTells_l4 x p1 x.a0 x.a1 fu i) (n := x.a0.Body.length) (P := fun i o => o = some true) (by omega) (fun fu => ?_) (fun fu i hi ih => ?_)
  · show m_w13_ShapeTells_l4 x p1 x.a0 x.a1 (fu + 1) _ = _
    unfold m_w13_ShapeTells_l4
    obtain ⟨s, s1, s2⟩ := tprints hl q0.2.2 q0.2.1
    rw [d_nlt (by omega), cond_false, scheck_ok hl q0.2.2, obind_some, rscheck_ok hl q0.2.2, obind_some, decide_eq_true rfl, cond_true, s1, obind_some, s2, obind_some, decide_eq_true rfl, cond_true, ssize_ok (by omega), obind_some, rssize_ok (by omega), obind_some, decide_eq_true rfl, cond_true,
      word_ok, obind_some, rword_ok, obind_some, decide_eq_true rfl, cond_true, tsame_ok (by omega) q0.2.2, obind_some, rtsame_ok (by omega) q0.2.2, obind_some, decide_eq_true rfl, cond_true, sawake_ok]
    rfl
  · show m_w13_ShapeTells_l4 x p1 x.a0 x.a1 (fu + 1) _ = _
    unfold m_w13_ShapeTells_l4
    rw [d_lt (by omega), cond_true, ssize_ok (by omega), obind_some, rssize_ok (by omega), obind_some, decide_eq_false (by simp), cond_false, inc_ok (by omega)]
    exact ih
end Go.Proofs.Ytdpmojhejidhiaa.K
