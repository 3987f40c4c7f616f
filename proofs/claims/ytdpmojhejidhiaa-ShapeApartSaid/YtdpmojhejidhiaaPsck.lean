/- Patterns: may they be, their sizes, their texts, plain. -/
import Derived.Test.YtdpmojhejidhiaaPshs
namespace Go.Proofs.Ytdpmojhejidhiaa.K
open Go.RowKit Go.Lib
set_option linter.unusedVariables false
set_option linter.unusedSimpArgs false
def wrdM (m : UInt8) : Bts := if m.toNat = 1 then [97, 110, 121] else if m.toNat = 2 then [110, 101, 120, 116] else if m.toNat = 3 then [115, 116, 114, 105, 99, 116] else []
theorem word_ok (m : UInt8) : m_shape_Word m = some (wrdM m) := by
  unfold m_shape_Word wrdM
  by_cases a : m.toNat = 1
  · rw [decide_eq_true (by omega), cond_true, if_pos a]
  rw [decide_eq_false (by omega), cond_false, if_neg a]
  by_cases a : m.toNat = 2
  · rw [decide_eq_true (by omega), cond_true, if_pos a]
  rw [decide_eq_false (by omega), cond_false, if_neg a]
  by_cases a : m.toNat = 3
  · rw [decide_eq_true (by omega), cond_true, if_pos a]
  rw [decide_eq_false (by omega), cond_false, if_neg a]
theorem wrdM_len (m : UInt8) : (wrdM m).length ≤ 6 := by unfold wrdM; split <;> (try split) <;> (try split) <;> simp
def talP (p : GPattern) : Int := if p.Within < 1 then 8 else if 1073741824 < p.Within then 8 else if p.By ≠ [] ∧ nameB p.By = false then 4 else if wrdM p.Mode = [] then 11 else 0
def chkP (p : GPattern) : Int := if 40 < p.Body.length then 5 else if (stre 16 0 p.Body).2 ≠ 0 then (stre 16 0 p.Body).2 else if 0 < (stre 16 0 p.Body).1.length then 5 else talP p
theorem scheck_ok {p : GPattern} (hl : p.Body.length ≤ 50) (hS : sS p.Body) : m_shape_Check p = some (chkP p) := by
  unfold m_shape_Check chkP talP
  by_cases a : 40 < p.Body.length
  · rw [d_lt (by omega), cond_true, if_pos a]
  rw [d_nlt (by omega), cond_false, if_neg a]
  rw [show m_shape_tree 1152921504606846976 p.Body 0 0 = some (stre 16 0 p.Body) from stree_ok (l0 := p.Body) (by omega) hS 16 1152921504606846976 0 p.Body (by omega) (Nat.le_refl _) (List.suffix_refl _), obind_some]
  by_cases b : (stre 16 0 p.Body).2 ≠ 0
  · rw [decide_eq_true b, cond_true, if_pos b]
  rw [decide_eq_false b, cond_false, if_neg b]
  by_cases c : 0 < (stre 16 0 p.Body).1.length
  · rw [d_lt (by omega), cond_true, if_pos c]
  rw [d_nlt (by omega), cond_false, if_neg c]
  by_cases d : p.Within < 1
  · rw [d_lt d, cond_true, if_pos d]
  rw [d_nlt d, cond_false, if_neg d]
  by_cases e : 1073741824 < p.Within
  · rw [d_lt e, cond_true, if_pos e]
  rw [d_nlt e, cond_false, if_neg e, name_ok, obind_some, word_ok, obind_some]
  by_cases f : p.By = []
  · rw [decide_eq_false (by simp [f]), cond_false, if_neg (by simp [f])]
    by_cases g : wrdM p.Mode = []
    · rw [decide_eq_true g, if_pos g]; rfl
    · rw [decide_eq_false g, if_neg g]; rfl
  · rw [decide_eq_true f, cond_true]
    cases hn : nameB p.By with
    | false => rw [if_pos ⟨f, rfl⟩]; rfl
    | true =>
      rw [if_neg (by simp), Bool.not_true, cond_false]
      by_cases g : wrdM p.Mode = []
      · rw [decide_eq_true g, if_pos g]; rfl
      · rw [decide_eq_false g, if_neg g]; rfl
theorem chkP_tree {p : GPattern} (h : chkP p = 0) : ∃ n k, p.Body = (SF.cons n k .nil).flat ∧ (SF.cons n k .nil).ok 16 0 ∧ p.Body.length ≤ 40 ∧ talP p = 0 := by
  unfold chkP at h
  by_cases a : 40 < p.Body.length
  · rw [if_pos a] at h; omega
  rw [if_neg a] at h
  by_cases b : (stre 16 0 p.Body).2 ≠ 0
  · rw [if_pos b] at h; exact absurd h b
  rw [if_neg b] at h
  by_cases c : 0 < (stre 16 0 p.Body).1.length
  · rw [if_pos c] at h; omega
  rw [if_neg c] at h
  obtain ⟨t, h1, h2, h3⟩ := of_stre 16 0 p.Body [] (Prod.ext (List.eq_nil_of_length_eq_zero (by omega)) (by simpa using b))
  match t, h1, h2, h3 with
  | .cons n k .nil, h1, h2, h3 => exact ⟨n, k, by simpa using h2, h3, by omega, h⟩
  | .nil, h1, h2, h3 => simp [SF.len] at h1
  | .cons n k (.cons _ _ _), h1, h2, h3 => simp [SF.len] at h1
theorem chkP_of {p : GPattern} {n : GNode} {k : SF} (h : (SF.cons n k .nil).ok 16 0) (hb : p.Body = (SF.cons n k .nil).flat) (hl : p.Body.length ≤ 40) (ht : talP p = 0) : chkP p = 0 := by
  have e := stre_of (.cons n k .nil) 16 0 [] h
  rw [List.append_nil, ← hb] at e
  have e1 : (stre 16 0 p.Body).2 = 0 ∧ (stre 16 0 p.Body).1 = [] := by
    unfold SF.len SF.len itF at e
    by_cases q : (stre 16 0 p.Body).2 ≠ 0
    · rw [if_pos q] at e; exact absurd (Prod.mk.inj e).2 q
    · rw [if_neg q] at e
      exact ⟨by simpa using q, (Prod.mk.inj e).1⟩
  unfold chkP
  rw [if_neg (by omega), if_neg (by simp [e1.1]), if_neg (by simp [e1.2]), ht]
/-! ### sizes -/
def sscn : Nat → List GNode → Option Nat
  | _, [] => none
  | k, n :: r => if k + kdN n = 1 then some 1 else (sscn (k + kdN n - 1) r).map (· + 1)
def ssiz (l : List GNode) (i : Int) : Int := if i < 0 ∨ (l.length : Int) ≤ i then 0 else (((sscn 1 (l.drop i.toNat)).getD 0 : Nat) : Int)
theorem ssize_l {s : List GNode} (hs : s.length ≤ 1000) : ∀ (fu i k : Nat), s.length - i < fu → i ≤ s.length → 1 ≤ k → k ≤ 1 + 40 * i → m_shape_Size_l2 s fu (k : Int) (i : Int) = some (((match sscn k (s.drop i) with | none => 0 | some j => i + j : Nat)) : Int)
  | 0, i, k, h, _, _, _ => by omega
  | fu + 1, i, k, hf, hi, hk, hk2 => by
    unfold m_shape_Size_l2
    by_cases hlt : i < s.length
    · have hkd := kdN_le s[i]
      rw [decide_eq_true (by omega), cond_true, geti_lt hlt, obind_some, skids_ok, obind_some, drop_cons hlt, sscn]
      have e : IntKind.i64.wrap ((k : Int) + IntKind.i64.wrap ((kdN s[i] : Int) - 1)) = ((k + kdN s[i] : Nat) : Int) - 1 := by
        rw [w64 (n := (kdN s[i] : Int) - 1) (by omega) (by omega), w64 (by omega) (by omega)]; omega
      rw [e]
      by_cases h1 : k + kdN s[i] = 1
      · rw [decide_eq_true (by omega), cond_true, if_pos h1, inc_ok (by omega)]
      · rw [decide_eq_false (by omega), cond_false, if_neg h1, inc_ok (by omega), show ((k + kdN s[i] : Nat) : Int) - 1 = ((k + kdN s[i] - 1 : Nat) : Int) by omega, ssize_l hs fu (i + 1) _ (by omega) (by omega) (by omega) (by omega)]
        cases sscn (k + kdN s[i] - 1) (s.drop (i + 1)) with
        | none => rfl
        | some j => simp only [Option.map_some]; congr 1; omega
    · rw [decide_eq_false (by omega), cond_false, List.drop_of_length_le (by omega), sscn]; rfl
theorem ssize_ok {l : List GNode} (hl : l.length ≤ 1000) (i : Int) : m_shape_Size l i = some (ssiz l i) := by
  unfold m_shape_Size ssiz
  by_cases h0 : i < 0
  · rw [d_lt h0, cond_true, if_pos (.inl h0)]
  · rw [d_nlt h0, cond_false]
    by_cases h1 : (l.length : Int) ≤ i
    · rw [decide_eq_true h1, cond_true, if_pos (.inr h1)]
    · obtain ⟨j, rfl⟩ : ∃ j : Nat, i = (j : Int) := ⟨i.toNat, by omega⟩
      have hc := cut_ok (l := l) (a := j) (b := l.length) (by omega) (Nat.le_refl _)
      rw [List.take_of_length_le (by rw [List.length_drop]; omega)] at hc
      rw [decide_eq_false h1, cond_false, if_neg (by omega), hc, obind_some, Int.toNat_natCast]
      have := ssize_l (s := l.drop j) (by rw [List.length_drop]; omega) 1152921504606846976 0 1 (by rw [List.length_drop]; omega) (Nat.zero_le _) (by omega) (by omega)
      rw [show m_shape_Size_l2 (l.drop j) 1152921504606846976 1 0 = _ from this, List.drop_zero]
      cases sscn 1 (l.drop j) <;> simp
theorem sscn_A : ∀ {t : SF} {d : Nat} {a : UInt8} {k : Nat} {r : List GNode}, t.ok d a → 1 ≤ k → sscn (t.len + k) (t.flat ++ r) = (sscn k r).map (· + t.flat.length)
  | .nil, d, a, k, r, h, hk => by
    show sscn (0 + k) r = (sscn k r).map (· + 0)
    rw [Nat.zero_add]; cases sscn k r <;> rfl
  | .cons n kf s, 0, a, k, r, h, hk => h.elim
  | .cons n kf s, d + 1, a, k, r, h, hk => by
    show sscn (s.len + 1 + k) (n :: ((kf.flat ++ s.flat) ++ r)) = _
    rw [sscn, h.2.2.2.1, if_neg (by omega), List.append_assoc, show s.len + 1 + k + kf.len - 1 = kf.len + (s.len + k) by omega, sscn_A h.2.2.2.2.1 (by omega), sscn_A h.2.2.2.2.2 hk, Option.map_map, Option.map_map]
    congr 1
    funext x
    simp [SF.flat]; omega
theorem len_nil {t : SF} (h : t.len = 0) : t = .nil := by cases t with | nil => rfl | cons n k r => simp [SF.len] at h
theorem sscn_B : ∀ {t : SF} {d : Nat} {a : UInt8} {r : List GNode}, t.ok d a → 1 ≤ t.len → sscn t.len (t.flat ++ r) = some t.flat.length
  | .nil, d, a, r, h, hk => by simp [SF.len] at hk
  | .cons n kf s, 0, a, r, h, hk => h.elim
  | .cons n kf s, d + 1, a, r, h, hk => by
    show sscn (s.len + 1) (n :: ((kf.flat ++ s.flat) ++ r)) = _
    rw [sscn, h.2.2.2.1]
    by_cases q : s.len = 0
    · obtain rfl := len_nil q
      by_cases q2 : kf.len = 0
      · obtain rfl := len_nil q2
        rw [if_pos (by simp [SF.len])]; rfl
      · rw [if_neg (by rw [q]; omega), show (SF.nil).len + 1 + kf.len - 1 = kf.len by simp [SF.len], List.append_assoc, sscn_B h.2.2.2.2.1 (by omega)]
        simp [SF.flat]
    · rw [if_neg (by omega), show s.len + 1 + kf.len - 1 = kf.len + s.len by omega, List.append_assoc, sscn_A h.2.2.2.2.1 (by omega), sscn_B h.2.2.2.2.2 (by omega)]
      simp [SF.flat]; omega
theorem ssize_at {l r : List GNode} {n : GNode} {k : SF} {d p : Nat} {a : UInt8} (hl : l.length ≤ 1000) (h : (SF.cons n k .nil).ok d a) (e : l.drop p = (SF.cons n k .nil).flat ++ r) : m_shape_Size l (p : Int) = some ((SF.cons n k .nil).flat.length : Int) := by
  have hp : p < l.length := by
    have := congrArg List.length e
    simp [SF.flat] at this; omega
  have := sscn_B (r := r) h (by simp [SF.len])
  rw [ssize_ok hl]
  unfold ssiz
  rw [if_neg (by omega), Int.toNat_natCast, e, show sscn 1 ((SF.cons n k .nil).flat ++ r) = _ from this]; rfl
/-! ### the text of a pattern -/
def tlS (p : GPattern) : Bts := [32, 119, 105, 116, 104, 105, 110, 32] ++ decS p.Within ++ (if p.By ≠ [] then [32, 98, 121, 32] ++ p.By else []) ++ [32] ++ wrdM p.Mode
theorem tal_of {p : GPattern} (h : talP p = 0) : 1 ≤ p.Within ∧ p.Within ≤ 1073741824 ∧ (p.By = [] ∨ nameB p.By = true) ∧ wrdM p.Mode ≠ [] := by
  unfold talP at h
  by_cases a : p.Within < 1
  · rw [if_pos a] at h; omega
  rw [if_neg a] at h
  by_cases b : 1073741824 < p.Within
  · rw [if_pos b] at h; omega
  rw [if_neg b] at h
  by_cases c : p.By ≠ [] ∧ nameB p.By = false
  · rw [if_pos c] at h; omega
  rw [if_neg c] at h
  by_cases d : wrdM p.Mode = []
  · rw [if_pos d] at h; omega
  refine ⟨by omega, by omega, ?_, d⟩
  by_cases e : p.By = []
  · exact .inl e
  · exact .inr (by cases hn : nameB p.By with | true => rfl | false => exact absurd ⟨e, hn⟩ c)
theorem tl_len {p : GPattern} (h : talP p = 0) (hb : p.By.length ≤ 40) : (tlS p).length ≤ 300 := by
  obtain ⟨h1, h2, _, _⟩ := tal_of h
  have := (digits_ok (k := p.Within) (by omega) h2).2
  have := wrdM_len p.Mode
  unfold tlS
  split <;> (simp; omega)
theorem tr_len {n : GNode} {k : SF} {d : Nat} {a : UInt8} (h : (SF.cons n k .nil).ok d a) (hS : sS (SF.cons n k .nil).flat) : (trT a n (k.txs n.Kind)).length ≤ 5000 * (SF.cons n k .nil).flat.length := by
  have := wid_ok h hS
  simp only [wid, SF.txs, List.map_cons, List.sum_cons, List.map_nil, List.sum_nil] at this
  omega
theorem sprint_no {p : GPattern} (hl : p.Body.length ≤ 50) (hS : sS p.Body) (h : chkP p ≠ 0) : m_shape_Print p = some [] := by
  unfold m_shape_Print
  rw [scheck_ok hl hS, obind_some, decide_eq_true h]; rfl
theorem sprint_ok {p : GPattern} {n : GNode} {k : SF} (h : (SF.cons n k .nil).ok 16 0) (hb : p.Body = (SF.cons n k .nil).flat) (hl : p.Body.length ≤ 40) (ht : talP p = 0) (hS : sS p.Body) (hby : p.By.length ≤ 40) : m_shape_Print p = some (trT 0 n (k.txs n.Kind) ++ tlS p) := by
  unfold m_shape_Print
  have hsp := (sp_ok (p := p) (by omega) hS (.cons n k .nil)).1 16 1152921504606846976 0 0 [] h (by rw [hb]; simp) (by rw [hb] at hl; simp [SF.flat] at hl; omega)
  have hlen := tr_len h (by rw [← hb]; exact hS)
  rw [← hb] at hlen
  obtain ⟨h1, h2, _, _⟩ := tal_of ht
  obtain ⟨d1, d2⟩ := digits_ok (k := p.Within) (by omega) h2
  have hw := wrdM_len p.Mode
  rw [scheck_ok (by omega) hS, obind_some, chkP_of h hb hl ht, decide_eq_false (by simp), cond_false, show m_shape_Print_1 1152921504606846976 0 p 0 = _ from hsp, obind_some]
  simp only
  rw [app_ok (by simp; omega), obind_some, d1, obind_some, app_ok (by simp; omega), obind_some]
  have j3 : ∀ y : Bts, y.length ≤ 1000000 → m_shape_Print_j3 (trT 0 n (k.txs n.Kind), p, ((0 + 1 + k.flat.length : Nat) : Int)) y = some (y ++ [32] ++ wrdM p.Mode) := fun y hy => by
    unfold m_shape_Print_j3
    rw [app_ok (by simp; omega), obind_some]
    simp only
    rw [word_ok, obind_some, app_ok (by simp; omega), obind_some]
  unfold tlS
  by_cases c : p.By = []
  · rw [decide_eq_false (by simp [c]), cond_false, if_neg (by simp [c]), j3 _ (by simp; omega)]
    simp
  · rw [decide_eq_true c, cond_true, if_pos c, app_ok (by simp; omega), obind_some, app_ok (by simp; omega), obind_some, j3 _ (by simp; omega)]
    simp
/-! ### what a statement takes -/
theorem sown_ok {p : GPattern} (hl : p.Body.length ≤ 1000) (hS : sS p.Body) : m_telltalelaw13_Own p = some p := by
  have := map_loop (L := fun fu s i => m_telltalelaw13_Own_l0 p fu s i) (l := p.Body) (f := id) (e := fun s => GPattern.mk s p.Within p.By p.Mode) (by omega) (fun fu s => by unfold m_telltalelaw13_Own_l0; rw [d_nlt (by omega)]; rfl)
    (fun fu s i h hs => by
      have hn := hS p.Body[i] (List.getElem_mem h)
      conv => lhs; unfold m_telltalelaw13_Own_l0
      rw [d_lt (by omega), cond_true, geti_lt h, obind_some, own_ok (by omega), obind_some, app_ok (by simp; omega), obind_some, inc_ok (by omega)]; rfl)
  rw [List.map_id] at this; exact this
theorem sover_ok {p : GPattern} (hw : ∀ n ∈ p.Body, wf_GNode n) : ∃ r, m_telltalelaw13_Over p = some r ∧ (r = 1 ∨ r = 0 ∧ p.Body.length ≤ 50 ∧ p.By.length ≤ 40 ∧ sS p.Body) := by
  unfold m_telltalelaw13_Over
  by_cases h : 50 < p.Body.length
  · rw [d_lt (by omega)]; exact ⟨1, rfl, .inl rfl⟩
  rw [d_nlt (by omega), cond_false]
  by_cases h4 : 40 < p.By.length
  · rw [d_lt (by omega)]; exact ⟨1, rfl, .inl rfl⟩
  rw [d_nlt (by omega), cond_false]
  have := loop1_0 (L := fun fu i => m_telltalelaw13_Over_l1 p fu i) (n := p.Body.length) (P := fun i o => ∃ r, o = some r ∧ (r = 1 ∨ r = 0 ∧ sS (p.Body.drop i))) (by omega)
    (fun fu => by unfold m_telltalelaw13_Over_l1; rw [d_nlt (by omega)]; exact ⟨0, rfl, .inr ⟨rfl, by simp [sS]⟩⟩)
    (fun fu i hi ih => by
      have hwi := hw p.Body[i] (List.getElem_mem hi)
      unfold m_telltalelaw13_Over_l1
      rw [d_lt (by omega), cond_true, geti_lt hi, obind_some]
      by_cases h1 : 40 < p.Body[i].Var.length
      · rw [d_lt (by omega)]; exact ⟨1, rfl, .inl rfl⟩
      rw [d_nlt (by omega), cond_false, obind_some]
      by_cases h2 : 40 < p.Body[i].Type_.length
      · rw [d_lt (by omega)]; exact ⟨1, rfl, .inl rfl⟩
      rw [d_nlt (by omega), cond_false, obind_some]
      obtain ⟨r0, e0, q0⟩ := over_ok (l := p.Body[i].Test) hwi.Test.2
      rw [e0, obind_some]
      rcases q0 with rfl | ⟨rfl, q0⟩
      · rw [d_lt (by decide)]; exact ⟨1, rfl, .inl rfl⟩
      rw [d_nlt (by decide), cond_false, inc_ok (by omega)]
      obtain ⟨r, e, q⟩ := ih
      refine ⟨r, e, q.imp id fun ⟨q1, q2⟩ => ⟨q1, ?_⟩⟩
      rw [drop_cons hi]
      intro n hn
      rcases List.mem_cons.1 hn with rfl | hn
      · exact ⟨by omega, by omega, q0.1, q0.2⟩
      · exact q2 n hn)
  obtain ⟨r, e, q⟩ := this
  exact ⟨r, e, q.imp id fun q => ⟨q.1, by omega, by omega, by simpa using q.2⟩⟩
theorem sawake_ok : m_telltalelaw13_awake = some true := by decide +kernel
end Go.Proofs.Ytdpmojhejidhiaa.K
