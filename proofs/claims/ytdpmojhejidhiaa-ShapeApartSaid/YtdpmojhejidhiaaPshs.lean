/- Patterns as trees: their texts, plain. -/
import Derived.Test.YtdpmojhejidhiaaPshp
namespace Go.Proofs.Ytdpmojhejidhiaa.K
open Go.RowKit Go.Lib
set_option linter.unusedVariables false
set_option linter.unusedSimpArgs false
/-! ### the text of a node -/
def prT (l : List GNode_) : List UInt8 := (m_pred_Print l).getD []
theorem prT_ok {l : List GNode_} (hl : l.length ≤ 40) (hS : nS l) : m_pred_Print l = some (prT l) ∧ (prT l).length ≤ 4400 := by
  obtain ⟨s, h, _, h2⟩ := print_ok hl hS
  unfold prT
  rw [h]
  refine ⟨rfl, ?_⟩
  rcases h2 with ⟨_, rfl⟩ | ⟨_, rfl⟩ | ⟨t, e, ht, rfl⟩
  · simp
  · simp
  · subst e
    have := str_len hS
    show t.str.length ≤ _
    omega
theorem digits_ok {k : Int} (h1 : 0 ≤ k) (h2 : k ≤ 1073741824) : m_shape_digits k = some (decS k) ∧ (decS k).length ≤ 100 := by
  have e : max (-4611686018427387904) (min k 4611686018427387904) = k := by omega
  have hc : chkV (GValue.mk 1 k 0 []) = 0 := by unfold chkV; simp; omega
  have hl : litS (GValue.mk 1 k 0 []) = decS k := by unfold litS; rw [if_neg (by simp [hc])]; rfl
  have := lit_len (GValue.mk 1 k 0 [])
  rw [hl] at this
  refine ⟨?_, this⟩
  unfold m_shape_digits m_value_OfInt
  rw [obind_some, e, lit_ok (show u64B (0 : Int) from ⟨by decide, by decide⟩), obind_some, hl]
def timS (n : GNode) : List UInt8 := if n.Hi = 1 then [63] else if n.Hi = 0 then (if n.Lo = 0 then [42] else if n.Lo = 1 then [43] else [123] ++ decS n.Lo ++ [44, 125]) else if n.Hi = n.Lo then [123] ++ decS n.Lo ++ [125] else [123] ++ decS n.Lo ++ [44] ++ decS n.Hi ++ [125]
theorem times_ok {n : GNode} (h : oftB n = true) : m_shape_Node_times n = some (timS n) ∧ (timS n).length ≤ 300 := by
  have h := of_decide_eq_true h
  obtain ⟨d1, l1⟩ := digits_ok (k := n.Lo) (by omega) (by omega)
  obtain ⟨d2, l2⟩ := digits_ok (k := n.Hi) (by omega) (by omega)
  constructor
  · unfold m_shape_Node_times m_shape_Node_times_j11 timS
    rw [d1, d2]
    simp only [obind_some]
    rw [app_ok (l := [123]) (r := decS n.Lo) (by simp; omega)]
    simp only [obind_some]
    rw [app_ok (l := [123] ++ decS n.Lo) (r := [44, 125]) (by simp; omega), app_ok (l := [123] ++ decS n.Lo) (r := [125]) (by simp; omega), app_ok (l := [123] ++ decS n.Lo) (r := [44]) (by simp; omega)]
    simp only [obind_some]
    rw [app_ok (l := [123] ++ decS n.Lo ++ [44]) (r := decS n.Hi) (by simp; omega)]
    simp only [obind_some]
    rw [app_ok (l := [123] ++ decS n.Lo ++ [44] ++ decS n.Hi) (r := [125]) (by simp; omega)]
    simp only [obind_some]
    by_cases a : n.Hi = 1
    · rw [decide_eq_true a, cond_true, if_pos a]
    rw [decide_eq_false a, cond_false, if_neg a]
    by_cases b : n.Hi = 0
    · rw [decide_eq_true b, cond_true, cond_true, cond_true, if_pos b]
      by_cases c : n.Lo = 0
      · rw [decide_eq_true c, cond_true, if_pos c]
      rw [decide_eq_false c, cond_false, if_neg c]
      by_cases d : n.Lo = 1
      · rw [decide_eq_true d, cond_true, if_pos d]
      · rw [decide_eq_false d, cond_false, if_neg d]
    · rw [decide_eq_false b, cond_false, cond_false, if_neg b]
      by_cases c : n.Hi = n.Lo
      · rw [decide_eq_true c, if_pos c]; rfl
      · rw [decide_eq_false c, if_neg c]; rfl
  · unfold timS
    split
    · simp
    · split
      · split
        · simp
        · split
          · simp
          · simp; omega
      · split <;> (simp; omega)
def lefS (n : GNode) : List UInt8 := (if kS n = 5 then [33] else []) ++ (n.Var ++ [58] ++ n.Type_) ++ (if 0 < n.Test.length then [91] ++ prT n.Test ++ [93] else [])
theorem lefS_ok {n : GNode} (h1 : n.Var.length ≤ 40) (h2 : n.Type_.length ≤ 40) (ht : n.Test.length ≤ 40) (hS : nS n.Test) : m_shape_Node_text n = some (lefS n) ∧ (lefS n).length ≤ 4500 := by
  obtain ⟨p1, p2⟩ := prT_ok ht hS
  constructor
  · have j2 : ∀ y, y.length ≤ 100 → m_shape_Node_text_j2 n y = some (y ++ (if 0 < n.Test.length then [91] ++ prT n.Test ++ [93] else [])) := fun y hy => by
      unfold m_shape_Node_text_j2
      by_cases c : 0 < n.Test.length
      · rw [decide_eq_true (by omega), cond_true, if_pos c, p1, obind_some, app_ok (by simp; omega), obind_some, app_ok (by simp; omega), obind_some, app_ok (by simp; omega)]; rfl
      · rw [decide_eq_false (by omega), cond_false, if_neg c, List.append_nil]
    unfold m_shape_Node_text lefS
    rw [app_ok (by simp; omega), obind_some, app_ok (by simp; omega), obind_some, ik5]
    by_cases c : kS n = 5
    · rw [decide_eq_true c, cond_true, if_pos c, app_ok (by simp; omega), obind_some, j2 _ (by simp; omega)]
    · rw [decide_eq_false c, cond_false, if_neg c, j2 _ (by simp; omega)]; rfl
  · unfold lefS
    have a : (if kS n = 5 then ([33] : List UInt8) else []).length ≤ 1 := by split <;> simp
    have b : (if 0 < n.Test.length then [91] ++ prT n.Test ++ [93] else []).length ≤ 4402 := by split <;> simp; omega
    rw [List.length_append, List.length_append, List.length_append, List.length_append]
    simp only [List.length_cons, List.length_nil]
    omega
/-! ### the text of a tree -/
abbrev Bts := List UInt8
def sepS (n : GNode) : Bts := if kS n = 2 then [32, 124, 32] else [59, 32]
def joinL (sep acc : Bts) (ts : List Bts) : Bts := ts.foldl (fun s x => s ++ (sep ++ x)) acc
def finT (a : UInt8) (n : GNode) (s : Bts) : Bts := par (decide (a.toNat = 3) || (decide (a.toNat = 1) && decide (kS n = 2))) (s ++ (if kS n = 3 then timS n else []))
def trT (a : UInt8) (n : GNode) (ts : List Bts) : Bts := if leaB n = true then lefS n else match ts with
  | [] => []
  | x :: xs => finT a n (joinL (sepS n) x xs)
def SF.txs : SF → UInt8 → List Bts
  | .nil, _ => []
  | .cons n k r, a => trT a n (k.txs n.Kind) :: r.txs a
def wid (ts : List Bts) : Nat := (ts.map fun x => x.length + 3).sum
theorem sep_len (n : GNode) : (sepS n).length ≤ 3 := by unfold sepS; split <;> simp
theorem join_len {sep : Bts} (h : sep.length ≤ 3) : ∀ (ts : List Bts) (acc : Bts), (joinL sep acc ts).length ≤ acc.length + wid ts
  | [], acc => by simp [joinL, wid]
  | x :: ts, acc => by
    have := join_len h ts (acc ++ (sep ++ x))
    simp only [joinL, List.foldl_cons, wid, List.map_cons, List.sum_cons] at *
    simp only [List.length_append] at this
    omega
theorem lac_rep {n : GNode} (hk : kS n = 3) (h : lacS n = false) : oftB n = true := by
  unfold lacS lisB at h
  rw [hk] at h
  simp at h
  exact h.2
theorem fin_len (a : UInt8) {n : GNode} (h : lacS n = false) (s : Bts) : (finT a n s).length ≤ s.length + 302 := by
  unfold finT
  have := par_len (decide (a.toNat = 3) || (decide (a.toNat = 1) && decide (kS n = 2))) (s ++ (if kS n = 3 then timS n else []))
  rw [List.length_append] at this
  by_cases c : kS n = 3
  · have := (times_ok (lac_rep c h)).2
    rw [if_pos c] at *
    omega
  · rw [if_neg c] at *
    simp at *; omega
theorem wid_ok : ∀ {t : SF} {d : Nat} {a : UInt8}, t.ok d a → sS t.flat → wid (t.txs a) ≤ 5000 * t.flat.length
  | .nil, d, a, h, hS => by simp [wid, SF.txs]
  | .cons n k r, 0, a, h, hS => h.elim
  | .cons n k r, d + 1, a, h, hS => by
    have hn := hS n (by simp [SF.flat])
    have hk := wid_ok h.2.2.2.2.1 (fun m hm => hS m (by simp [SF.flat, hm]))
    have hr := wid_ok h.2.2.2.2.2 (fun m hm => hS m (by simp [SF.flat, hm]))
    have e : (trT a n (k.txs n.Kind)).length ≤ 4500 + wid (k.txs n.Kind) := by
      unfold trT
      split
      · have := (lefS_ok hn.1 hn.2.1 hn.2.2.1 hn.2.2.2).2; omega
      · cases hx : k.txs n.Kind with
        | nil => simp
        | cons x xs =>
          have h1 := fin_len a h.2.1 (joinL (sepS n) x xs)
          have h2 := join_len (sep_len n) xs x
          simp only [wid, List.map_cons, List.sum_cons] at *
          omega
    simp only [wid, SF.txs, List.map_cons, List.sum_cons, SF.flat, List.length_cons, List.length_append] at *
    omega
theorem sfin_ok {a : UInt8} {n : GNode} {y7 : Bts} {K : UInt8 → GPattern → Int → Option (Bts × GPattern × Int)} {p : GPattern} {kd : Nat} (hk1 : 1 ≤ kd) (hk : kd ≤ 40) (hl : lacS n = false) (fu i : Nat) (hi : kd ≤ i + 1) (at_ : Int) {acc : Bts} (hacc : acc.length ≤ 1000000) :
    m_shape_Print_1_l6 a (kd : Int) n y7 K (fu + 1) p at_ acc (i : Int) = some (finT a n acc, p, at_) := by
  unfold m_shape_Print_1_l6
  rw [w64 (n := (kd : Int) - 1) (by omega) (by omega), decide_eq_false (by omega), cond_false, ik3]
  have j9 : ∀ s : Bts, s.length ≤ 1001000 → m_shape_Print_1_j9 a n p at_ s = some (par (decide (a.toNat = 3) || (decide (a.toNat = 1) && decide (kS n = 2))) s, p, at_) := fun s hs => by
    unfold m_shape_Print_1_j9
    rw [ik2, show decide (((a.toNat : Nat) : Int) = 3) = decide (a.toNat = 3) from decide_eq_decide.2 (by omega), show decide (((a.toNat : Nat) : Int) = 1) = decide (a.toNat = 1) from decide_eq_decide.2 (by omega)]
    rw [app_ok (l := [40]) (r := s) (by simp; omega)]
    simp only [obind_some]
    rw [app_ok (l := [40] ++ s) (r := [41]) (by simp; omega)]
    cases decide (a.toNat = 3) <;> cases decide (a.toNat = 1) <;> cases decide (kS n = 2) <;> rfl
  unfold finT
  by_cases c : kS n = 3
  · obtain ⟨t1, t2⟩ := times_ok (lac_rep c hl)
    rw [decide_eq_true c, cond_true, if_pos c, t1, obind_some, app_ok (by omega), obind_some, j9 _ (by rw [List.length_append]; omega)]
  · rw [decide_eq_false c, cond_false, if_neg c, List.append_nil, j9 _ (by omega)]
theorem sstp_ok {a : UInt8} {n : GNode} {y7 : Bts} {K : UInt8 → GPattern → Int → Option (Bts × GPattern × Int)} {p : GPattern} {kd : Nat} (hk : kd ≤ 40) (fu i : Nat) (hi : i + 1 < kd) (at_ : Int) {acc s : Bts} {z : Int} (hK : K n.Kind p at_ = some (s, p, z)) (h7 : y7.length ≤ 3) (hacc : acc.length + s.length ≤ 1000000) :
    m_shape_Print_1_l6 a (kd : Int) n y7 K (fu + 1) p at_ acc (i : Int) = m_shape_Print_1_l6 a (kd : Int) n y7 K fu p z (acc ++ (y7 ++ s)) ((i + 1 : Nat) : Int) := by
  conv => lhs; unfold m_shape_Print_1_l6
  rw [w64 (n := (kd : Int) - 1) (by omega) (by omega), decide_eq_true (by omega), cond_true, hK, obind_some]
  simp only
  rw [app_ok (by omega), obind_some, app_ok (by rw [List.length_append]; omega), obind_some, inc_ok (by omega)]
/-- What the walk over a wood does: its first tree, and those beside it. -/
def SP (p : GPattern) : SF → Prop
  | .nil => True
  | .cons n k s => (∀ (d fu at_ : Nat) (a : UInt8) (r : List GNode), (SF.cons n k s).ok d a → p.Body.drop at_ = (SF.cons n k s).flat ++ r → k.flat.length + 1 < fu → m_shape_Print_1 fu a p (at_ : Int) = some (trT a n (k.txs n.Kind), p, ((at_ + 1 + k.flat.length : Nat) : Int))) ∧
    (∀ (d fu fu6 at_ i kd : Nat) (q : UInt8) (m : GNode) (y7 acc : Bts) (r : List GNode), s.ok d m.Kind → p.Body.drop at_ = s.flat ++ r → s.flat.length + 1 < fu → s.len < fu6 → kd = i + 1 + s.len → kd ≤ 40 → lacS m = false → y7.length ≤ 3 → acc.length + wid (s.txs m.Kind) ≤ 1000000 →
      m_shape_Print_1_l6 q (kd : Int) m y7 (fun a p z => m_shape_Print_1 fu a p z) fu6 p (at_ : Int) acc (i : Int) = some (finT q m (joinL y7 acc (s.txs m.Kind)), p, ((at_ + s.flat.length : Nat) : Int)))
theorem kd_leaf {n : GNode} (h : leaB n = true) : kdN n = 0 := by
  unfold leaB at h; unfold kdN lisB
  rcases Bool.or_eq_true _ _ ▸ h with h | h <;> (have h := of_decide_eq_true h; rw [h]; rfl)
theorem kd_more {n : GNode} {a : UInt8} (h : leaB n = false) (hs : stdB n a = true) (hl : lacS n = false) : 1 ≤ kdN n := by
  have h := Bool.or_eq_false_iff.1 h
  have h4 := of_decide_eq_false h.1
  have h5 := of_decide_eq_false h.2
  have hk := of_decide_eq_true ((Bool.and_eq_true _ _).mp hs).1
  unfold kdN
  by_cases c : lisB n = true
  · rw [if_pos c]
    unfold lacS at hl
    rw [if_pos c] at hl
    have := Bool.or_eq_false_iff.1 hl
    have := of_decide_eq_false this.1
    omega
  · rw [if_neg c]
    have c' : lisB n = false := by simpa using c
    have c := Bool.or_eq_false_iff.1 c'
    have h1 := of_decide_eq_false c.1
    have h2 := of_decide_eq_false c.2
    rw [if_pos (by omega)]; omega
theorem sp_ok {p : GPattern} (hl : p.Body.length ≤ 50) (hS : sS p.Body) : ∀ t : SF, SP p t := by
  intro t
  induction t with
  | nil => trivial
  | cons n k s ihk ihs =>
    refine ⟨?_, ?_⟩
    · intro d fu at_ a r h e hf
      have e0 : p.Body.drop at_ = n :: (k.flat ++ (s.flat ++ r)) := by rw [e]; simp [SF.flat]
      have ha : at_ < p.Body.length := by have := congrArg List.length e0; simp at this; omega
      have e1 : p.Body.drop (at_ + 1) = k.flat ++ (s.flat ++ r) := drop_at (s := [n]) e0
      have hn := hS n (List.mem_of_mem_drop (i := at_) (by rw [e0]; simp))
      cases d with
      | zero => exact h.elim
      | succ d =>
      cases fu with
      | zero => omega
      | succ fu =>
      unfold m_shape_Print_1
      rw [geti_at e0, obind_some, leaf_ok, obind_some]
      unfold trT
      by_cases c : leaB n = true
      · rw [if_pos c, c, cond_true, (lefS_ok hn.1 hn.2.1 hn.2.2.1 hn.2.2.2).1, obind_some, inc_ok (by omega)]
        have hk0 : k.len = 0 := by have := h.2.2.2.1; rw [kd_leaf c] at this; omega
        cases k with
        | nil => rfl
        | cons _ _ _ => simp [SF.len] at hk0
      · have c' : leaB n = false := by simpa using c
        rw [if_neg c, c', cond_false]
        have hk1 := kd_more c' h.1 h.2.1
        have hkd := kdN_le n
        have hke := h.2.2.2.1
        cases k with
        | nil => simp [SF.len] at hke; omega
        | cons m kk ss =>
          have e1' : p.Body.drop (at_ + 1) = (SF.cons m kk ss).flat ++ (s.flat ++ r) := e1
          have e2 : p.Body.drop (at_ + 1 + 1 + kk.flat.length) = ss.flat ++ (s.flat ++ r) := by
            have h1 : p.Body.drop (at_ + 1) = (m :: kk.flat) ++ (ss.flat ++ (s.flat ++ r)) := by rw [e1']; simp [SF.flat]
            have := drop_at h1
            rw [List.length_cons] at this
            rw [show at_ + 1 + 1 + kk.flat.length = at_ + 1 + (kk.flat.length + 1) by omega]; exact this
          have hfl : (SF.cons m kk ss).flat.length = kk.flat.length + ss.flat.length + 1 := by simp [SF.flat]
          have hbl : at_ + 1 + (SF.cons m kk ss).flat.length ≤ p.Body.length := by
            have := congrArg List.length e1'
            rw [List.length_drop, List.length_append] at this; omega
          have hSk : sS (SF.cons m kk ss).flat := fun x hx => hS x (List.mem_of_mem_drop (i := at_ + 1) (by rw [e1']; exact List.mem_append_left _ hx))
          have hw := wid_ok h.2.2.2.2.1 hSk
          have hlen1 : (trT n.Kind m (kk.txs m.Kind)).length + wid (ss.txs n.Kind) ≤ 1000000 := by
            simp only [wid, SF.txs, List.map_cons, List.sum_cons] at *
            omega
          have hok := h.2.2.2.2.1
          cases d with
          | zero => exact hok.elim
          | succ d =>
          have a1 := ihk.1 (d + 1) fu (at_ + 1) n.Kind (s.flat ++ r) hok e1' (by omega)
          have a2 : ∀ y7 : Bts, y7.length ≤ 3 → _ := fun y7 h7 => ihk.2 (d + 1) fu 1152921504606846976 (at_ + 1 + 1 + kk.flat.length) 0 (kdN n) a n y7 (trT n.Kind m (kk.txs m.Kind)) (s.flat ++ r) hok.2.2.2.2.2 e2 (by omega) (show ss.len < 1152921504606846976 by simp [SF.len] at hke; omega) (by simp [SF.len] at hke; omega) hkd h.2.1 h7 hlen1
          have j3 : ∀ y7 : Bts, y7.length ≤ 3 → m_shape_Print_1_j3 a p (at_ : Int) n (fun p0 p1 p2 => m_shape_Print_1 fu p0 p1 p2) y7 = some (finT a n (joinL y7 (trT n.Kind m (kk.txs m.Kind)) (ss.txs n.Kind)), p, ((at_ + 1 + (SF.cons m kk ss).flat.length : Nat) : Int)) := fun y7 h7 => by
            unfold m_shape_Print_1_j3
            rw [inc_ok (by omega)]
            show Option.bind (m_shape_Print_1 fu n.Kind p ((at_ + 1 : Nat) : Int)) _ = _
            rw [a1, obind_some, skids_ok, obind_some]
            rw [hfl, show at_ + 1 + (kk.flat.length + ss.flat.length + 1) = at_ + 1 + 1 + kk.flat.length + ss.flat.length by omega]
            exact a2 y7 h7
          rw [j3 _ (by decide), j3 _ (by decide), ik2]
          unfold sepS
          by_cases c2 : kS n = 2
          · rw [decide_eq_true c2, if_pos c2]; rfl
          · rw [decide_eq_false c2, if_neg c2]; rfl
    · intro d fu fu6 at_ i kd q m y7 acc r h e hf hf6 hkd hk40 hlm h7 hacc
      cases fu6 with
      | zero => omega
      | succ fu6 =>
      cases s with
      | nil =>
        simp only [SF.len] at hkd
        rw [sfin_ok (by omega) hk40 hlm fu6 i (by omega) _ (by omega)]
        rfl
      | cons n2 k2 s2 =>
        simp only [SF.len] at hkd hf6
        have hx : (trT m.Kind n2 (k2.txs n2.Kind)).length + 3 + wid (s2.txs m.Kind) = wid ((SF.cons n2 k2 s2).txs m.Kind) := by simp [wid, SF.txs]
        have hfl : (SF.cons n2 k2 s2).flat.length = k2.flat.length + s2.flat.length + 1 := by simp [SF.flat]
        have a1 := ihs.1 d fu at_ m.Kind r h e (by omega)
        have e2 : p.Body.drop (at_ + 1 + k2.flat.length) = s2.flat ++ r := by
          have h1 : p.Body.drop at_ = (n2 :: k2.flat) ++ (s2.flat ++ r) := by rw [e]; simp [SF.flat]
          have := drop_at h1
          rw [List.length_cons] at this
          rw [show at_ + 1 + k2.flat.length = at_ + (k2.flat.length + 1) by omega]; exact this
        have hok : s2.ok d m.Kind := by
          cases d with
          | zero => exact h.elim
          | succ d => exact h.2.2.2.2.2
        rw [sstp_ok hk40 fu6 i (by omega) _ a1 h7 (by omega)]
        rw [ihs.2 d fu fu6 (at_ + 1 + k2.flat.length) (i + 1) kd q m y7 _ r hok e2 (by omega) (by omega) (by omega) hk40 hlm h7 (by rw [List.length_append, List.length_append]; omega)]
        rw [hfl, show at_ + (k2.flat.length + s2.flat.length + 1) = at_ + 1 + k2.flat.length + s2.flat.length by omega]
        rfl
end Go.Proofs.Ytdpmojhejidhiaa.K
