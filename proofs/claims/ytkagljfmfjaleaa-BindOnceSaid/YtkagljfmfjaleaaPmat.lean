/- Matches: order, bytes, places; the program's ways and the document's, plain. -/
import Derived.Test.YtkagljfmfjaleaaMbd
import Derived.Test.YtkagljfmfjaleaaMzg
namespace Go.Proofs.Ytkagljfmfjaleaa.K
open Go.RowKit Go.Lib
set_option linter.unusedVariables false
set_option linter.unusedSimpArgs false
theorem awake_ok : m_telltalelaw19_awake = some true := by decide +kernel
/-! ### lists of pairs and matches held against each other -/
theorem pEq {a b : GPair} (h1 : a.Var = b.Var) (h2 : a.E = b.E) : a = b := by cases a; cases b; simp_all
theorem mEq {a b : GMatch} (h1 : a.Pattern = b.Pattern) (h2 : a.Key = b.Key) (h3 : a.Bound = b.Bound) : a = b := by cases a; cases b; simp_all
def pvB (l : List GPair) : Prop := l.length ≤ 1000 ∧ ∀ p ∈ l, p.E.Vals.length ≤ 1000
theorem bdB.pv {l : List GPair} (h : bdB l) : pvB l := ⟨by have := h.1; omega, fun p hp => by have := (h.2 p hp).2.2.1; omega⟩
theorem rsame19_ok {a b : GMatch} (ha : pvB a.Bound) (hb : pvB b.Bound) : m_telltaleref19_Same a b = some (decide (a = b)) := by
  unfold m_telltaleref19_Same m_telltaleref19_Same_j1
  by_cases h1 : a.Pattern = b.Pattern
  · rw [decide_eq_false (by simp [h1]), cond_false]
    by_cases h2 : a.Key = b.Key
    · rw [decide_eq_false (by simp [h2]), cond_false]
      by_cases h5 : a.Bound.length = b.Bound.length
      · rw [decide_eq_false (by simp [h5]), cond_false]
        have := eq_loop (L := fun fu i => m_telltaleref19_Same_l2 a b fu i) (a := a.Bound) (b := b.Bound) h5 (by have := ha.1; omega)
          (fun fu => by unfold m_telltaleref19_Same_l2; rw [d_nlt (by omega)]; rfl)
          (fun fu i i1 i2 => by
            have v1 := ha.2 _ (List.getElem_mem i1)
            have v2 := hb.2 _ (List.getElem_mem i2)
            conv => lhs; unfold m_telltaleref19_Same_l2
            rw [d_lt (by omega), cond_true, geti_lt i1, obind_some, geti_lt i2, obind_some]
            by_cases q : a.Bound[i].Var = b.Bound[i].Var
            · rw [decide_eq_false (by simp [q]), cond_false, obind_some, obind_some, rsame_ok (by omega) (by omega), obind_some, inc_ok (by have := ha.1; omega)]
              by_cases h : a.Bound[i].E = b.Bound[i].E
              · rw [decide_eq_true h, if_pos (pEq q h)]; rfl
              · rw [decide_eq_false h, if_neg (fun e => h (by rw [e]))]; rfl
            · rw [decide_eq_true q, if_neg (fun e => q (by rw [e]))]; rfl)
        refine this.trans ?_
        congr 1
        exact decide_eq_decide.2 ⟨fun h => mEq h1 h2 h, fun h => by rw [h]⟩
      · rw [decide_eq_true (by omega), decide_eq_false (fun h : a = b => h5 (by rw [h]))]; rfl
    · rw [decide_eq_true h2, decide_eq_false (fun h : a = b => h2 (by rw [h]))]; rfl
  · rw [decide_eq_true h1, decide_eq_false (fun h : a = b => h1 (by rw [h]))]; rfl
/-! ### the order -/
def bf (a b : GMatch) : Int := lexI (cmpI a.Pattern b.Pattern) (lexI (cmpS a.Key b.Key) (rk a.Bound b.Bound))
theorem bf_c : Cmp bf := (cmpI_c.comap GMatch.Pattern).lex ((cmpS_c.comap GMatch.Key).lex (rk_c.comap GMatch.Bound))
theorem bf_set (a b : GMatch) : bf a b = -1 ∨ bf a b = 0 ∨ bf a b = 1 := lexI_set (cmpI_set _ _) (lexI_set (cmpS_set _ _) (rk_set _ _))
theorem or3_ok (a b d : Int) : m_cmp_Or_int [a, b, d] = some (lexI a (lexI b d)) := by
  unfold m_cmp_Or_int
  have h : ∀ fu, m_cmp_Or_int_l1 [a, b, d] (fu + 4) 0 = some (lexI a (lexI b d)) := fun fu => by
    unfold m_cmp_Or_int_l1
    by_cases ha : a = 0
    · unfold m_cmp_Or_int_l1
      by_cases hb : b = 0
      · unfold m_cmp_Or_int_l1
        by_cases hd : d = 0
        · unfold m_cmp_Or_int_l1
          subst ha hb hd; rfl
        · subst ha hb
          show cond (decide (d ≠ 0)) (some d) _ = _
          rw [decide_eq_true hd]; rfl
      · subst ha
        show cond (decide (b ≠ 0)) (some b) _ = _
        rw [decide_eq_true hb]
        simp [lexI, hb]
    · show cond (decide (a ≠ 0)) (some a) _ = _
      rw [decide_eq_true ha]
      simp [lexI, ha]
  exact h 1152921504606846972
theorem before_ok (a b : GMatch) (ha : a.Bound.length ≤ 400000000) : m_bind_Before a b = some (bf a b) := by
  unfold m_bind_Before
  rw [compI_ok, obind_some, compS_ok, obind_some, rank_ok _ _ ha, obind_some, or3_ok]; rfl
theorem rbefore_ok (a b : GMatch) (ha : a.Bound.length ≤ 400000000) (hb : b.Bound.length ≤ 400000000) : m_telltaleref19_Before a b = some (bf a b) := by
  unfold m_telltaleref19_Before bf
  by_cases h1 : a.Pattern = b.Pattern
  · rw [decide_eq_false (by simp [h1]), cond_false, h1, cmpI_c.self]
    by_cases h2 : a.Key = b.Key
    · rw [decide_eq_false (by simp [h2]), cond_false, h2, cmpS_c.self, rrank_ok _ _ ha hb]; rfl
    · rw [decide_eq_true h2, cond_true]
      unfold cmpS
      cases hx : ltS a.Key b.Key
      · rw [cond_false, if_neg (by simp), if_neg h2]; rfl
      · rw [cond_true, if_pos rfl]; rfl
  · rw [decide_eq_true h1, cond_true]
    unfold cmpI
    by_cases h : a.Pattern < b.Pattern
    · rw [d_lt h, if_pos h]; rfl
    · rw [d_nlt h, if_neg h, if_pos (by omega)]; rfl
/-! ### the bytes -/
def txB (s : List UInt8) : List UInt8 := zb s.length ++ s
def prI (p : GPair) : List UInt8 := txB p.Var ++ (zb (zfold p.E.Time) ++ (zb (zfold p.E.Source) ++ zb (zfold p.E.Seq)))
def idB (m : GMatch) : List UInt8 := zb (zfold m.Pattern) ++ (txB m.Key ++ (zb m.Bound.length ++ m.Bound.flatMap prI))
def i64B (n : Int) : Prop := -9223372036854775808 ≤ n ∧ n ≤ 9223372036854775807
theorem wrapNat {n : Nat} (h : n ≤ 1000000) : IntKind.u64.wrap (n : Int) = (n : Int) := by rw [wu64]; omega
theorem zb_len {u : Nat} (h : u < 18446744073709551616) : (zb u).length ≤ 10 := by rw [zb_length]; exact zn_le10 u h
theorem zbf_len {n : Int} (h : i64B n) : (zb (zfold n)).length ≤ 10 := zb_len (zfold_lt n h.1 h.2)
theorem text_ok {b s : List UInt8} (hb : b.length ≤ 10000000) (hs : s.length ≤ 1000) : m_bind_text b s = some (b ++ txB s) := by
  unfold m_bind_text
  have := zb_len (u := s.length) (by omega)
  rw [wrapNat (by omega), put_ok (by omega) (by omega), obind_some, app_ok (by simp; omega), obind_some, txB, List.append_assoc]
theorem rtext_ok {b s : List UInt8} (hb : b.length ≤ 10000000) (hs : s.length ≤ 1000) : m_telltaleref19_text b s = some (b ++ txB s) := by
  unfold m_telltaleref19_text
  have := zb_len (u := s.length) (by omega)
  rw [wrapNat (by omega), rput_ok (by omega) (by omega), obind_some, app_ok (by simp; omega), obind_some, txB, List.append_assoc]
theorem rnum_ok {b : List UInt8} {n : Int} (hb : b.length ≤ 10000000) (hn : i64B n) : m_telltaleref19_number b n = some (b ++ zb (zfold n)) := by
  unfold m_telltaleref19_number
  rw [rfold_ok hn.1 hn.2, obind_some, rput_ok (by omega) (zfold_lt n hn.1 hn.2)]; rfl
def piB (p : GPair) : Prop := p.Var.length ≤ 1000 ∧ i64B p.E.Time ∧ i64B p.E.Source ∧ i64B p.E.Seq
theorem prI_len {p : GPair} (h : piB p) : (prI p).length ≤ 2000 := by
  unfold prI txB
  have h0 := zb_len (u := p.Var.length) (by have := h.1; omega)
  have h1 := zbf_len h.2.1
  have h2 := zbf_len h.2.2.1
  have h3 := zbf_len h.2.2.2
  have := h.1
  simp only [List.length_append]; omega
def miB (m : GMatch) : Prop := i64B m.Pattern ∧ m.Key.length ≤ 1000 ∧ m.Bound.length ≤ 1000 ∧ ∀ p ∈ m.Bound, piB p
theorem ident_l6 {x : GPair} {b : List UInt8} (hb : b.length ≤ 9000000) (hx : piB x) (y : Int) (k : List UInt8 → Int → Option (List UInt8)) :
    m_bind_Ident_l6 x y k 1152921504606846976 b 0 = k (b ++ (zb (zfold x.E.Time) ++ (zb (zfold x.E.Source) ++ zb (zfold x.E.Seq)))) (IntKind.i64.wrap (y + 1)) := by
  have h1 := zbf_len hx.2.1
  have h2 := zbf_len hx.2.2.1
  have h : ∀ fu, m_bind_Ident_l6 x y k (fu + 4) b 0 = k (b ++ (zb (zfold x.E.Time) ++ (zb (zfold x.E.Source) ++ zb (zfold x.E.Seq)))) (IntKind.i64.wrap (y + 1)) := fun fu => by
    conv => lhs; unfold m_bind_Ident_l6
    rw [d_lt (by omega), cond_true, show geti [x.E.Time, x.E.Source, x.E.Seq] 0 = some x.E.Time from rfl, obind_some, putint_ok (by omega) hx.2.1.1 hx.2.1.2, obind_some, show IntKind.i64.wrap (0 + 1) = 1 from rfl]
    conv => lhs; unfold m_bind_Ident_l6
    rw [d_lt (by omega), cond_true, show geti [x.E.Time, x.E.Source, x.E.Seq] 1 = some x.E.Source from rfl, obind_some, putint_ok (by simp only [List.length_append]; omega) hx.2.2.1.1 hx.2.2.1.2, obind_some, show IntKind.i64.wrap (1 + 1) = 2 from rfl]
    conv => lhs; unfold m_bind_Ident_l6
    rw [d_lt (by omega), cond_true, show geti [x.E.Time, x.E.Source, x.E.Seq] 2 = some x.E.Seq from rfl, obind_some, putint_ok (by simp only [List.length_append]; omega) hx.2.2.2.1 hx.2.2.2.2, obind_some, show IntKind.i64.wrap (2 + 1) = 3 from rfl]
    conv => lhs; unfold m_bind_Ident_l6
    rw [d_nlt (by omega), cond_false, List.append_assoc, List.append_assoc]
  exact h 1152921504606846972
theorem fold_cat {α : Type} (f : α → List UInt8) (l : List α) (i : Nat) (h : i < l.length) (s : List UInt8) : s ++ (l.drop i).flatMap f = (s ++ f l[i]) ++ (l.drop (i + 1)).flatMap f := by
  rw [drop_cons h, List.flatMap_cons, List.append_assoc]
theorem ident_ok {m : GMatch} (h : miB m) : m_bind_Ident m = some (idB m) := by
  unfold m_bind_Ident
  have h1 := zbf_len h.1
  have h2 := zb_len (u := m.Key.length) (by have := h.2.1; omega)
  have h3 := zb_len (u := m.Bound.length) (by have := h.2.2.1; omega)
  have hk := h.2.1
  have hn := h.2.2.1
  rw [putint_ok (by simp) h.1.1 h.1.2, obind_some, List.nil_append, text_ok (by omega) (by omega), obind_some, wrapNat (by omega), put_ok (by simp only [txB, List.length_append]; omega) (by omega), obind_some]
  have := loopG_0 (L := fun fu s i => m_bind_Ident_l3 m fu s i) (n := m.Bound.length) (P := fun i s o => s.length ≤ 5000 + i * 2000 → o = some (s ++ (m.Bound.drop i).flatMap prI)) (by omega)
    (fun fu s hs => by unfold m_bind_Ident_l3; rw [d_nlt (by omega), List.drop_of_length_le (Nat.le_refl _)]; simp)
    (fun fu s i hi ih hs => by
      have hp := h.2.2.2 _ (List.getElem_mem hi)
      have hl := prI_len hp
      have hv := hp.1
      have hz := zb_len (u := m.Bound[i].Var.length) (by omega)
      unfold m_bind_Ident_l3
      rw [d_lt (by omega), cond_true, geti_lt hi, obind_some, text_ok (by omega) (by omega), obind_some, ident_l6 (by simp only [txB, List.length_append]; omega) hp, inc_ok (by omega), fold_cat prI _ i hi, List.append_assoc]
      exact ih _ (by show (s ++ prI m.Bound[i]).length ≤ _; rw [List.length_append]; omega))
    ((zb (zfold m.Pattern) ++ txB m.Key) ++ zb m.Bound.length) (by simp only [txB, List.length_append]; omega)
  refine this.trans ?_
  rw [List.drop_zero]
  simp [idB, List.append_assoc]
theorem rident_ok {m : GMatch} (h : miB m) : m_telltaleref19_Ident m = some (idB m) := by
  unfold m_telltaleref19_Ident
  have h1 := zbf_len h.1
  have h2 := zb_len (u := m.Key.length) (by have := h.2.1; omega)
  have h3 := zb_len (u := m.Bound.length) (by have := h.2.2.1; omega)
  have hk := h.2.1
  have hn := h.2.2.1
  rw [rnum_ok (by simp) h.1, obind_some, List.nil_append, rtext_ok (by omega) (by omega), obind_some, wrapNat (by omega), rput_ok (by simp only [txB, List.length_append]; omega) (by omega), obind_some]
  have := loopG_0 (L := fun fu s i => m_telltaleref19_Ident_l2 m fu s i) (n := m.Bound.length) (P := fun i s o => s.length ≤ 5000 + i * 2000 → o = some (s ++ (m.Bound.drop i).flatMap prI)) (by omega)
    (fun fu s hs => by unfold m_telltaleref19_Ident_l2; rw [d_nlt (by omega), List.drop_of_length_le (Nat.le_refl _)]; simp)
    (fun fu s i hi ih hs => by
      have hp := h.2.2.2 _ (List.getElem_mem hi)
      have hl := prI_len hp
      have hv := hp.1
      have hz := zb_len (u := m.Bound[i].Var.length) (by omega)
      have z1 := zbf_len hp.2.1
      have z2 := zbf_len hp.2.2.1
      unfold m_telltaleref19_Ident_l2
      rw [d_lt (by omega), cond_true, geti_lt hi, obind_some, obind_some, rtext_ok (by omega) (by omega), obind_some, rnum_ok (by simp only [txB, List.length_append]; omega) hp.2.1, obind_some, rnum_ok (by simp only [txB, List.length_append]; omega) hp.2.2.1, obind_some,
        rnum_ok (by simp only [txB, List.length_append]; omega) hp.2.2.2, obind_some, inc_ok (by omega), fold_cat prI _ i hi]
      rw [show ((s ++ txB m.Bound[i].Var) ++ zb (zfold m.Bound[i].E.Time) ++ zb (zfold m.Bound[i].E.Source)) ++ zb (zfold m.Bound[i].E.Seq) = s ++ prI m.Bound[i] by simp [prI, List.append_assoc]]
      exact ih _ (by rw [List.length_append]; omega))
    ((zb (zfold m.Pattern) ++ txB m.Key) ++ zb m.Bound.length) (by simp only [txB, List.length_append]; omega)
  refine this.trans ?_
  rw [List.drop_zero]
  simp [idB, List.append_assoc]
/-! ### one into its place -/
def isIn (l : List GMatch) (m : GMatch) : Bool := l.any fun x => decide (bf x m = 0)
def putL (l : List GMatch) (m : GMatch) : List GMatch := l.takeWhile (fun x => !decide (0 < bf x m)) ++ m :: l.dropWhile (fun x => !decide (0 < bf x m))
def putM (l : List GMatch) (m : GMatch) : List GMatch × Bool := if isIn l m = true then (l, false) else (putL l m, true)
def mB (m : GMatch) : Prop := m.Key.length ≤ 60 ∧ bdB m.Bound
theorem mB.len {m : GMatch} (h : mB m) : m.Bound.length ≤ 20 := h.2.1
theorem tw_at {α : Type} {p : α → Bool} : ∀ {l : List α} {k : Nat}, (∀ x ∈ l.take k, p x = true) → (l.length ≤ k ∨ ∃ x, l[k]? = some x ∧ p x = false) → l.takeWhile p = l.take k ∧ l.dropWhile p = l.drop k
  | [], k, _, _ => by simp
  | a :: l, 0, _, h => by
    rcases h with h | ⟨x, hx, h⟩
    · simp at h
    · simp at hx; subst hx; simp [List.takeWhile_cons, List.dropWhile_cons, h]
  | a :: l, k + 1, h1, h2 => by
    have ha := h1 a (by simp)
    have := tw_at (l := l) (k := k) (fun x hx => h1 x (by simp [hx])) (by simpa using h2)
    simp [List.takeWhile_cons, List.dropWhile_cons, ha, this.1, this.2]
theorem clone_ok {l : List GMatch} (h : l.length ≤ 1000000) : m_slices_Clone_Match l = some l := by
  unfold m_slices_Clone_Match
  rw [app_ok (by simp; omega)]; rfl
theorem isIn_take {l : List GMatch} {m : GMatch} (h : ∀ x ∈ l, bf x m ≠ 0) : isIn l m = false := by
  unfold isIn
  rw [List.any_eq_false]
  exact fun x hx => by simpa using h x hx
theorem isIn_of {l : List GMatch} {m x : GMatch} (h : x ∈ l) (e : bf x m = 0) : isIn l m = true := by
  unfold isIn
  rw [List.any_eq_true]
  exact ⟨x, h, by simpa using e⟩
theorem put_end {l : List GMatch} {m : GMatch} {k : Nat} (hl : l.length ≤ 1000) (hk : k ≤ l.length) (h0 : ∀ x ∈ l, bf x m ≠ 0) (h1 : ∀ x ∈ l.take k, ¬ 0 < bf x m) (h2 : l.length ≤ k ∨ ∃ x, l[k]? = some x ∧ 0 < bf x m) :
    l.take k ++ [m] ++ l.drop k = putL l m := by
  have := tw_at (p := fun x => !decide (0 < bf x m)) (l := l) (k := k) (fun x hx => by simp [h1 x hx]) (h2.imp id fun ⟨x, e, h⟩ => ⟨x, e, by simp [h]⟩)
  unfold putL
  rw [this.1, this.2]; simp
theorem cut_0 {α : Type} {l : List α} {k : Nat} (h : k ≤ l.length) : cut l 0 (k : Int) = some (l.take k) := by
  have := cut_ok (l := l) (a := 0) (b := k) (by omega) h
  simpa using this
theorem cut_n {α : Type} {l : List α} {k : Nat} (h : k ≤ l.length) : cut l (k : Int) (l.length : Int) = some (l.drop k) := by
  have := cut_ok (l := l) (a := k) (b := l.length) h (Nat.le_refl _)
  rw [this]
  rw [List.take_of_length_le (by rw [List.length_drop]; omega)]
theorem take_all {α : Type} {p : α → Prop} {l : List α} {i : Nat} (h : i < l.length) (a : ∀ x ∈ l.take i, p x) (b : p l[i]) : ∀ x ∈ l.take (i + 1), p x := fun x hx => by
  rw [take_snoc h] at hx
  rcases List.mem_append.1 hx with hx | hx
  · exact a x hx
  · simp only [List.mem_singleton] at hx; subst hx; exact b
theorem put19_ok {l : List GMatch} {m : GMatch} (hl : l.length ≤ 1000) (hb : ∀ x ∈ l, x.Bound.length ≤ 400000000) : m_bind_Put l m = some (putM l m) := by
  unfold m_bind_Put
  refine loopG_0 (L := fun fu s i => m_bind_Put_l2 l m fu s i) (n := l.length) (P := fun i s o => (∀ x ∈ l.take i, bf x m ≠ 0) → ((s = (l.length : Int) ∧ ∀ x ∈ l.take i, ¬ 0 < bf x m) ∨ ∃ k : Nat, k < i ∧ s = (k : Int) ∧ (∀ x ∈ l.take k, ¬ 0 < bf x m) ∧ ∃ x, l[k]? = some x ∧ 0 < bf x m) → o = some (putM l m)) (by omega) ?_ ?_ (l.length : Int) (by simp) (.inl ⟨rfl, by simp⟩)
  · intro fu s h0 hs
    rw [List.take_of_length_le (Nat.le_refl _)] at h0 hs
    obtain ⟨k, hk, rfl, h1, h2⟩ : ∃ k : Nat, k ≤ l.length ∧ s = (k : Int) ∧ (∀ x ∈ l.take k, ¬ 0 < bf x m) ∧ (l.length ≤ k ∨ ∃ x, l[k]? = some x ∧ 0 < bf x m) := by
      rcases hs with ⟨e, h⟩ | ⟨k, h1, h2, h3, h4⟩
      · exact ⟨l.length, Nat.le_refl _, e, by rw [List.take_of_length_le (Nat.le_refl _)]; exact h, .inl (Nat.le_refl _)⟩
      · exact ⟨k, by omega, h2, h3, .inr h4⟩
    unfold m_bind_Put_l2
    rw [d_nlt (by omega), cond_false, w64 (by omega) (by omega), show mkc 0 ((l.length : Int) + 1) (GMatch.mk 0 [] []) = some [] by unfold mkc; rw [if_pos (by omega)]; rfl, obind_some, cut_0 hk, obind_some, app_ok (by simp; omega), obind_some, app_ok (by simp; omega), obind_some, cut_n hk, obind_some, app_ok (by simp; omega), obind_some, List.nil_append, put_end hl hk h0 h1 h2]
    unfold putM
    rw [isIn_take h0]; rfl
  · intro fu s i hi ih h0 hs
    have hbi := hb _ (List.getElem_mem hi)
    unfold m_bind_Put_l2
    rw [d_lt (by omega), cond_true, geti_lt hi, obind_some, before_ok _ _ hbi, obind_some]
    by_cases hz : bf l[i] m = 0
    · rw [decide_eq_true hz, cond_true, clone_ok (by omega), obind_some]
      unfold putM
      rw [isIn_of (List.getElem_mem hi) hz]; rfl
    · rw [decide_eq_false hz, cond_false, inc_ok (by omega)]
      have h0' := take_all hi h0 hz
      by_cases hp : 0 < bf l[i] m
      · rw [d_lt hp, cond_true]
        rcases hs with ⟨e, h⟩ | ⟨k, h1, h2, h3, h4⟩
        · subst e
          rw [decide_eq_true rfl, cond_true]
          exact ih _ h0' (.inr ⟨i, by omega, rfl, h, l[i], List.getElem?_eq_getElem hi, hp⟩)
        · rw [decide_eq_false (by omega), cond_false]
          exact ih _ h0' (.inr ⟨k, by omega, h2, h3, h4⟩)
      · rw [d_nlt hp, cond_false]
        refine ih _ h0' ?_
        rcases hs with ⟨e, h⟩ | ⟨k, h1, h2, h3, h4⟩
        · exact .inl ⟨e, take_all hi h hp⟩
        · exact .inr ⟨k, by omega, h2, h3, h4⟩
theorem rput19_ok {l : List GMatch} {m : GMatch} (hl : l.length ≤ 1000) (hm : m.Bound.length ≤ 400000000) (hb : ∀ x ∈ l, x.Bound.length ≤ 400000000) : m_telltaleref19_Put l m = some (putM l m) := by
  unfold m_telltaleref19_Put
  have j5 : ∀ k : Nat, k ≤ l.length → (∀ x ∈ l, bf x m ≠ 0) → (∀ x ∈ l.take k, ¬ 0 < bf x m) → (l.length ≤ k ∨ ∃ x, l[k]? = some x ∧ 0 < bf x m) → m_telltaleref19_Put_j5 l m (k : Int) = some (putM l m) := fun k hk h0 h1 h2 => by
    unfold m_telltaleref19_Put_j5
    rw [cut_0 hk, obind_some, app_ok (by simp; omega), obind_some, app_ok (by simp; omega), obind_some, cut_n hk, obind_some, app_ok (by simp; omega), obind_some, List.nil_append, put_end hl hk h0 h1 h2]
    unfold putM
    rw [isIn_take h0]; rfl
  have l3 : (∀ x ∈ l, bf x m ≠ 0) → m_telltaleref19_Put_l3 l m 1152921504606846976 0 = some (putM l m) := fun h0 => by
    refine loop1_0 (L := fun fu i => m_telltaleref19_Put_l3 l m fu i) (n := l.length) (P := fun i o => (∀ x ∈ l.take i, ¬ 0 < bf x m) → o = some (putM l m)) (by omega) ?_ ?_ (by simp)
    · intro fu h
      unfold m_telltaleref19_Put_l3
      rw [d_nlt (by omega), cond_false, j5 _ (Nat.le_refl _) h0 h (.inl (Nat.le_refl _))]
    · intro fu i hi ih h
      have hbi := hb _ (List.getElem_mem hi)
      have hz := h0 _ (List.getElem_mem hi)
      unfold m_telltaleref19_Put_l3
      rw [d_lt (by omega), cond_true, geti_lt hi, obind_some, rbefore_ok _ _ hbi hm, obind_some]
      by_cases hp : 0 < bf l[i] m
      · rw [d_nlt (by omega), cond_false, j5 _ (by omega) h0 h (.inr ⟨l[i], List.getElem?_eq_getElem hi, hp⟩)]
      · rw [d_lt (by omega), cond_true, inc_ok (by omega)]
        exact ih (take_all hi h hp)
  refine loop1_0 (L := fun fu i => m_telltaleref19_Put_l0 l m fu i) (n := l.length) (P := fun i o => (∀ x ∈ l.take i, bf x m ≠ 0) → o = some (putM l m)) (by omega) ?_ ?_ (by simp)
  · intro fu h
    rw [List.take_of_length_le (Nat.le_refl _)] at h
    unfold m_telltaleref19_Put_l0
    rw [d_nlt (by omega), cond_false, l3 h]
  · intro fu i hi ih h
    have hbi := hb _ (List.getElem_mem hi)
    unfold m_telltaleref19_Put_l0
    rw [d_lt (by omega), cond_true, geti_lt hi, obind_some, rbefore_ok _ _ hbi hm, obind_some]
    by_cases hz : bf l[i] m = 0
    · rw [decide_eq_true hz, cond_true]
      unfold putM
      rw [isIn_of (List.getElem_mem hi) hz]; rfl
    · rw [decide_eq_false hz, cond_false, inc_ok (by omega)]
      exact ih (take_all hi h hz)
/-! ### what a statement takes; copies -/
theorem over19_ok {m : GMatch} (hw : wf_GMatch m) : ∃ r, m_telltalelaw19_Over m = some r ∧ (r = 1 ∨ r = 0 ∧ mB m) := by
  unfold m_telltalelaw19_Over
  have hk := maxLen_le hw.Key
  by_cases h : 60 < m.Key.length
  · rw [d_lt (by omega)]; exact ⟨1, rfl, .inl rfl⟩
  · rw [d_nlt (by omega), cond_false]
    obtain ⟨r, e, q⟩ := long_ok (l := m.Bound) hw.Bound.2
    rw [e, obind_some]
    exact ⟨r, rfl, q.imp id fun ⟨a, b⟩ => ⟨a, by omega, b⟩⟩
theorem own19_ok {m : GMatch} (h : mB m) : m_telltalelaw19_Own m = some m := by unfold m_telltalelaw19_Own; rw [pairs_ok h.2]; rfl
theorem back19_ok {m : GMatch} (h : mB m) : m_telltalelaw19_Back m = some m := by unfold m_telltalelaw19_Back; rw [bpairs_ok h.2]; rfl
theorem all19_ok {l : List GMatch} (hl : l.length ≤ 1000) (h : ∀ m ∈ l, mB m) : m_telltalelaw19_All l = some l := by
  have := map_loop (L := fun fu s i => m_telltalelaw19_All_l0 l fu s i) (l := l) (f := id) (e := id) (by omega) (fun fu s => by unfold m_telltalelaw19_All_l0; rw [d_nlt (by omega)]; rfl)
    (fun fu s i hi hs => by
      conv => lhs; unfold m_telltalelaw19_All_l0
      rw [d_lt (by omega), cond_true, geti_lt hi, obind_some, own19_ok (h _ (List.getElem_mem hi)), obind_some, app_ok (by simp; omega), obind_some, inc_ok (by omega)]; rfl)
  rw [List.map_id] at this; exact this
theorem backAll19_ok {l : List GMatch} (hl : l.length ≤ 1000) (h : ∀ m ∈ l, mB m) : m_telltalelaw19_BackAll l = some l := by
  have := map_loop (L := fun fu s i => m_telltalelaw19_BackAll_l0 l fu s i) (l := l) (f := id) (e := id) (by omega) (fun fu s => by unfold m_telltalelaw19_BackAll_l0; rw [d_nlt (by omega)]; rfl)
    (fun fu s i hi hs => by
      conv => lhs; unfold m_telltalelaw19_BackAll_l0
      rw [d_lt (by omega), cond_true, geti_lt hi, obind_some, back19_ok (h _ (List.getElem_mem hi)), obind_some, app_ok (by simp; omega), obind_some, inc_ok (by omega)]; rfl)
  rw [List.map_id] at this; exact this
theorem sameAll19_ok {a b : List GMatch} (ha : a.length ≤ 1000) (va : ∀ m ∈ a, mB m) (vb : ∀ m ∈ b, mB m) : m_telltaleref19_SameAll a b = some (decide (a = b)) := by
  unfold m_telltaleref19_SameAll
  by_cases h5 : a.length = b.length
  · rw [decide_eq_false (by simp [h5]), cond_false]
    exact eq_loop (L := fun fu i => m_telltaleref19_SameAll_l1 a b fu i) (a := a) (b := b) h5 (by omega)
      (fun fu => by unfold m_telltaleref19_SameAll_l1; rw [d_nlt (by omega)]; rfl)
      (fun fu i i1 i2 => by
        have h1 := (va _ (List.getElem_mem i1)).2.pv
        have h2 := (vb _ (List.getElem_mem i2)).2.pv
        conv => lhs; unfold m_telltaleref19_SameAll_l1
        rw [d_lt (by omega), cond_true, geti_lt i1, obind_some, geti_lt i2, obind_some, rsame19_ok h1 h2, obind_some, inc_ok (by omega)]
        by_cases h : a[i] = b[i]
        · rw [decide_eq_true h, if_pos h]; rfl
        · rw [decide_eq_false h, if_neg h]; rfl)
  · rw [decide_eq_true (by omega), decide_eq_false (fun h : a = b => h5 (by rw [h]))]; rfl
theorem putM_mem {l : List GMatch} {m x : GMatch} (h : x ∈ (putM l m).1) : x ∈ l ∨ x = m := by
  unfold putM at h
  split at h
  · exact .inl h
  · unfold putL at h
    rcases List.mem_append.1 h with h | h
    · exact .inl ((List.takeWhile_sublist _).subset h)
    · rcases List.mem_cons.1 h with h | h
      · exact .inr h
      · exact .inl ((List.dropWhile_sublist _).subset h)
theorem putL_len (l : List GMatch) (m : GMatch) : (putL l m).length = l.length + 1 := by
  have := congrArg List.length (List.takeWhile_append_dropWhile (p := fun x => !decide (0 < bf x m)) (l := l))
  rw [List.length_append] at this
  unfold putL
  rw [List.length_append, List.length_cons]; omega
theorem putM_len (l : List GMatch) (m : GMatch) : (putM l m).1.length = if (putM l m).2 = true then l.length + 1 else l.length := by
  unfold putM
  split
  · rfl
  · exact putL_len l m
theorem wf_mi {m : GMatch} (hw : wf_GMatch m) (h : mB m) : miB m := ⟨in_i64 hw.Pattern, by have := h.1; omega, by have := h.2.1; omega, fun p hp => ⟨by have := (h.2.2 p hp).1; omega, in_i64 (hw.Bound.2 p hp).E.Time, in_i64 (hw.Bound.2 p hp).E.Source, in_i64 (hw.Bound.2 p hp).E.Seq⟩⟩
end Go.Proofs.Ytkagljfmfjaleaa.K
