/- BindOnce by models. -/
import Derived.Test.YtkagljfmfjaleaaPmat
namespace Go.Proofs.Ytkagljfmfjaleaa.K
open Go.RowKit Go.Lib
set_option linter.unusedVariables false
set_option linter.unusedSimpArgs false
def Up (l : List GMatch) : Prop := l.Pairwise fun x y => bf x y < 0
theorem dw_gt {l : List GMatch} {m : GMatch} (h : Up l) : ∀ x ∈ l.dropWhile (fun x => !decide (0 < bf x m)), 0 < bf x m := by
  induction l with
  | nil => simp
  | cons a l ih =>
    intro x hx
    rw [List.dropWhile_cons] at hx
    have h' := List.pairwise_cons.1 h
    split at hx
    · exact ih h'.2 x hx
    · rename_i k
      have k : 0 < bf a m := by simpa using k
      rcases List.mem_cons.1 hx with rfl | hx
      · exact k
      · have h1 := h'.1 x hx
        have n1 := bf_c.neg a m
        have n2 := bf_c.neg x m
        have := bf_c.lt2 (x := m) (y := a) (z := x) (by omega) (by omega)
        omega
theorem tw_le {m : GMatch} : ∀ (l : List GMatch), ∀ x ∈ l.takeWhile (fun x => !decide (0 < bf x m)), bf x m ≤ 0
  | [], x, hx => by simp at hx
  | a :: l, x, hx => by
    rw [List.takeWhile_cons] at hx
    split at hx
    · rename_i k
      have k : ¬ 0 < bf a m := by simpa using k
      rcases List.mem_cons.1 hx with rfl | hx
      · omega
      · exact tw_le l x hx
    · simp at hx
theorem not_isIn {l : List GMatch} {m : GMatch} (h : ¬ isIn l m = true) : ∀ x ∈ l, bf x m ≠ 0 := fun x hx e => h (isIn_of hx e)
theorem putM_up {l : List GMatch} {m : GMatch} (h : Up l) : Up (putM l m).1 := by
  unfold putM
  split
  · exact h
  · rename_i k
    have hz := not_isIn k
    have hd := dw_gt (m := m) h
    have ht := tw_le (m := m) l
    have e : l = l.takeWhile (fun x => !decide (0 < bf x m)) ++ l.dropWhile (fun x => !decide (0 < bf x m)) := (List.takeWhile_append_dropWhile).symm
    have h2 := h
    unfold Up at h2
    rw [e, List.pairwise_append] at h2
    show Up (putL l m)
    unfold putL Up
    rw [List.pairwise_append, List.pairwise_cons]
    refine ⟨h2.1, ⟨fun y hy => ?_, h2.2.1⟩, fun a ha b hb => ?_⟩
    · have := hd y hy
      have := bf_c.neg y m
      omega
    · rcases List.mem_cons.1 hb with rfl | hb
      · have h1 := ht a ha
        have h3 := hz a ((List.takeWhile_sublist _).subset ha)
        omega
      · exact h2.2.2 a ha b hb
theorem putM_has (l : List GMatch) (m : GMatch) : (∀ x ∈ l, x ∈ (putM l m).1) ∧ ∃ y ∈ (putM l m).1, bf m y = 0 := by
  unfold putM
  split
  · rename_i k
    refine ⟨fun x hx => hx, ?_⟩
    unfold isIn at k
    obtain ⟨y, hy, e⟩ := List.any_eq_true.1 k
    have e : bf y m = 0 := by simpa using e
    exact ⟨y, hy, by have := bf_c.neg y m; omega⟩
  · have e : l = l.takeWhile (fun x => !decide (0 < bf x m)) ++ l.dropWhile (fun x => !decide (0 < bf x m)) := (List.takeWhile_append_dropWhile).symm
    refine ⟨fun x hx => ?_, m, by simp [putL], bf_c.self m⟩
    rw [e] at hx
    show x ∈ putL l m
    unfold putL
    rcases List.mem_append.1 hx with hx | hx
    · simp [hx]
    · simp [hx]
def fo (s l : List GMatch) : List GMatch := l.foldl (fun a m => (putM a m).1) s
theorem fo_snoc (s l : List GMatch) (m : GMatch) : fo s (l ++ [m]) = (putM (fo s l) m).1 := by simp [fo]
theorem fo_up : ∀ (l s : List GMatch), Up s → Up (fo s l)
  | [], s, h => h
  | m :: l, s, h => fo_up l _ (putM_up h)
theorem fo_mem : ∀ (l s : List GMatch) (x : GMatch), x ∈ fo s l → x ∈ s ∨ x ∈ l
  | [], s, x, h => .inl h
  | m :: l, s, x, h => by
    rcases fo_mem l _ x h with h | h
    · rcases putM_mem h with h | h
      · exact .inl h
      · exact .inr (by simp [h])
    · exact .inr (by simp [h])
theorem fo_keep : ∀ (l s : List GMatch) (x : GMatch), x ∈ s → x ∈ fo s l
  | [], s, x, h => h
  | m :: l, s, x, h => fo_keep l _ x ((putM_has s m).1 x h)
theorem fo_has : ∀ (l s : List GMatch) (x : GMatch), x ∈ l → ∃ y ∈ fo s l, bf x y = 0
  | [], s, x, h => by simp at h
  | m :: l, s, x, h => by
    rcases List.mem_cons.1 h with rfl | h
    · obtain ⟨y, h1, h2⟩ := (putM_has s x).2
      exact ⟨y, fo_keep l _ y h1, h2⟩
    · exact fo_has l _ x h
theorem fo_len : ∀ (l s : List GMatch), (fo s l).length ≤ s.length + l.length
  | [], s => Nat.le_refl _
  | m :: l, s => by
    have h1 := fo_len l (putM s m).1
    have h2 := putM_len s m
    show (fo (putM s m).1 l).length ≤ _
    rw [List.length_cons]
    split at h2 <;> omega
/-- Two that rise and tell of each other's members stand side by side. -/
theorem pair_up : ∀ (a b : List GMatch), Up a → Up b → (∀ x ∈ a, ∃ y ∈ b, bf x y = 0) → (∀ y ∈ b, ∃ x ∈ a, bf y x = 0) → a.length = b.length ∧ ∀ (i : Nat) (h1 : i < a.length) (h2 : i < b.length), bf a[i] b[i] = 0
  | [], [], _, _, _, _ => ⟨rfl, fun i h => by simp at h⟩
  | [], y :: b, _, _, _, k => by obtain ⟨x, h, _⟩ := k y (by simp); simp at h
  | x :: a, [], _, _, k, _ => by obtain ⟨y, h, _⟩ := k x (by simp); simp at h
  | x :: a, y :: b, ha, hb, k1, k2 => by
    have ha' := List.pairwise_cons.1 ha
    have hb' := List.pairwise_cons.1 hb
    have e : bf x y = 0 := by
      obtain ⟨z, hz, e1⟩ := k1 x (by simp)
      rcases List.mem_cons.1 hz with rfl | hz
      · exact e1
      · obtain ⟨w, hw, e2⟩ := k2 y (by simp)
        have n2 := bf_c.neg y w
        rcases List.mem_cons.1 hw with rfl | hw
        · omega
        · exfalso
          have h1 := hb'.1 z hz
          have h2 := ha'.1 w hw
          have n1 := bf_c.neg x z
          have h3 := bf_c.lt2 (x := y) (y := z) (z := x) h1 (by omega)
          have h4 := bf_c.lt2 (x := x) (y := w) (z := y) h2 (by omega)
          have := bf_c.neg x y
          omega
    have n := bf_c.neg x y
    obtain ⟨h1, h2⟩ := pair_up a b ha'.2 hb'.2
      (fun u hu => by
        obtain ⟨z, hz, e1⟩ := k1 u (by simp [hu])
        rcases List.mem_cons.1 hz with rfl | hz
        · have h1 := ha'.1 u hu
          have := bf_c.lt2 (x := x) (y := u) (z := z) h1 (by omega)
          omega
        · exact ⟨z, hz, e1⟩)
      (fun u hu => by
        obtain ⟨z, hz, e1⟩ := k2 u (by simp [hu])
        rcases List.mem_cons.1 hz with rfl | hz
        · have h1 := hb'.1 u hu
          have := bf_c.lt2 (x := y) (y := u) (z := z) h1 (by omega)
          omega
        · exact ⟨z, hz, e1⟩)
    refine ⟨by simp [h1], fun i i1 i2 => ?_⟩
    cases i with
    | zero => exact e
    | succ i => exact h2 i (by simpa using i1) (by simpa using i2)
theorem Up.adj {l : List GMatch} (h : Up l) {i : Nat} (h1 : 1 ≤ i) (h2 : i < l.length) : bf (l[i - 1]'(by omega)) l[i] < 0 := (List.pairwise_iff_getElem.1 h) (i - 1) i _ _ (by omega)
theorem dec_ok {i : Nat} (h : 1 ≤ i) (h2 : i ≤ 1000000) : IntKind.i64.wrap ((i : Int) - 1) = ((i - 1 : Nat) : Int) := by rw [w64 (by omega) (by omega)]; omega
theorem once_l17 {l a : List GMatch} (hl : l.length ≤ 12) (hb : ∀ x ∈ l, mB x) (ha : a.length ≤ 12) (hab : ∀ x ∈ a, mB x) (hi : ∀ x ∈ l, isIn a x = true) : m_telltalelaw19_BindOnce_l17 l a 1152921504606846976 0 = some true := by
  refine loop1_0 (L := fun fu i => m_telltalelaw19_BindOnce_l17 l a fu i) (n := l.length) (P := fun i o => o = some true) (by omega) ?_ ?_
  · intro fu
    unfold m_telltalelaw19_BindOnce_l17
    rw [d_nlt (by omega), cond_false, awake_ok]; rfl
  · intro fu i hi' ih
    have hm := List.getElem_mem hi'
    unfold m_telltalelaw19_BindOnce_l17
    rw [d_lt (by omega), cond_true, geti_lt hi', obind_some, own19_ok (hb _ hm), obind_some, put19_ok (by omega) (fun x hx => by have := (hab x hx).len; omega), obind_some]
    unfold putM
    rw [if_pos (hi _ hm), cond_false, inc_ok (by omega)]
    exact ih
theorem once_l13 {l a b : List GMatch} (hl : l.length ≤ 12) (hb : ∀ x ∈ l, mB x) (ha : a.length ≤ 12) (hab : ∀ x ∈ a, mB x) (hi : ∀ x ∈ l, isIn a x = true) (hu : Up a) (he : a.length = b.length) (hz : ∀ (i : Nat) (h1 : i < a.length) (h2 : i < b.length), bf a[i] b[i] = 0) :
    m_telltalelaw19_BindOnce_l13 l a b 1152921504606846976 0 = some true := by
  refine loop1_0 (L := fun fu i => m_telltalelaw19_BindOnce_l13 l a b fu i) (n := a.length) (P := fun i o => o = some true) (by omega) ?_ ?_
  · intro fu
    unfold m_telltalelaw19_BindOnce_l13
    rw [d_nlt (by omega), cond_false, once_l17 hl hb ha hab hi]
  · intro fu i h1 ih
    have hbd := (hab _ (List.getElem_mem h1)).len
    unfold m_telltalelaw19_BindOnce_l13 m_telltalelaw19_BindOnce_j16
    rw [d_lt (by omega), cond_true]
    by_cases h0 : 0 < i
    · have hbd2 := (hab _ (List.getElem_mem (show i - 1 < a.length by omega))).len
      have := hu.adj h0 h1
      rw [d_lt (by omega), cond_true, dec_ok h0 (by omega), geti_lt (by omega), obind_some, geti_lt h1, obind_some, before_ok _ _ (by omega), obind_some, decide_eq_false (by omega), cond_false, obind_some, geti_lt (by omega), obind_some, before_ok _ _ (by omega), obind_some, hz i h1 (by omega), decide_eq_false (by simp), cond_false, inc_ok (by omega)]
      exact ih
    · rw [d_nlt (by omega), cond_false, geti_lt h1, obind_some, geti_lt (by omega), obind_some, before_ok _ _ (by omega), obind_some, hz i h1 (by omega), decide_eq_false (by simp), cond_false, inc_ok (by omega)]
      exact ih
theorem once_l10 {l : List GMatch} (hl : l.length ≤ 12) (hb : ∀ x ∈ l, mB x) : m_telltalelaw19_BindOnce_l10 l (fo [] l) 1152921504606846976 [] ((l.length : Int) - 1) = some true := by
  have h : ∀ (fu k : Nat), k ≤ l.length → k < fu → m_telltalelaw19_BindOnce_l10 l (fo [] l) fu (fo [] (l.drop k).reverse) ((k : Int) - 1) = some true := by
    intro fu
    induction fu with
    | zero => intro k _ h; omega
    | succ fu ih =>
      intro k hk hf
      have hlen := fo_len (l.drop k).reverse []
      simp only [List.length_nil, List.length_reverse, List.length_drop] at hlen
      have hmem : ∀ x ∈ fo [] (l.drop k).reverse, mB x := fun x hx => by
        rcases fo_mem _ _ _ hx with h | h
        · simp at h
        · exact hb x (List.mem_of_mem_drop (List.mem_reverse.1 h))
      unfold m_telltalelaw19_BindOnce_l10
      cases k with
      | zero =>
        have ha := fo_len l []
        simp only [List.length_nil] at ha
        have up1 := fo_up l [] List.Pairwise.nil
        have up2 := fo_up l.reverse [] List.Pairwise.nil
        have q1 : ∀ x ∈ fo [] l, ∃ y ∈ fo [] l.reverse, bf x y = 0 := fun x hx => fo_has _ _ _ (List.mem_reverse.2 ((fo_mem _ _ _ hx).resolve_left (by simp)))
        have q2 : ∀ x ∈ fo [] l.reverse, ∃ y ∈ fo [] l, bf x y = 0 := fun x hx => fo_has _ _ _ (List.mem_reverse.1 ((fo_mem _ _ _ hx).resolve_left (by simp)))
        obtain ⟨e, z⟩ := pair_up _ _ up1 up2 q1 q2
        rw [decide_eq_false (by omega), cond_false, List.drop_zero, decide_eq_false (by simp [e]), cond_false]
        exact once_l13 hl hb (by omega) (fun x hx => hb x ((fo_mem _ _ _ hx).resolve_left (by simp))) (fun x hx => by
          obtain ⟨y, h1, h2⟩ := fo_has l [] x hx
          exact isIn_of h1 (by have := bf_c.neg x y; omega)) up1 e z
      | succ k =>
        have hm := List.getElem_mem (show k < l.length by omega)
        rw [show (((k + 1 : Nat) : Int) - 1) = (k : Int) by omega, decide_eq_true (by omega), cond_true, geti_lt (by omega), obind_some, own19_ok (hb _ hm), obind_some, put19_ok (by omega) (fun x hx => by have := (hmem x hx).len; omega), obind_some, w64 (by omega) (by omega), ← fo_snoc]
        have := ih k (by omega) (by omega)
        rw [drop_cons (by omega), List.reverse_cons] at this
        exact this
  have := h 1152921504606846976 l.length (Nat.le_refl _) (by omega)
  rw [List.drop_of_length_le (Nat.le_refl _)] at this
  exact this
theorem main_BindOnce (l : List GMatch) (hw : wfL wf_GMatch l) : m_telltalelaw19_BindOnce l = some true := by
  unfold m_telltalelaw19_BindOnce
  have hn := maxLen_le hw.1
  by_cases h : 12 < l.length
  · rw [d_lt (by omega), cond_true, awake_ok]; rfl
  rw [d_nlt (by omega), cond_false]
  refine loopG_0 (L := fun fu s i => m_telltalelaw19_BindOnce_l2 l fu s i) (n := l.length) (P := fun i s o => s = fo [] (l.take i) → (∀ x ∈ l.take i, mB x) → o = some true) (by omega) ?_ ?_ [] rfl (by simp)
  · intro fu s hs hb
    rw [List.take_of_length_le (Nat.le_refl _)] at hs hb
    subst hs
    unfold m_telltalelaw19_BindOnce_l2
    rw [d_nlt (by omega), cond_false, w64 (by omega) (by omega), once_l10 (by omega) hb]
  · intro fu s i hi ih hs hb
    obtain ⟨r, e, q⟩ := over19_ok (hw.2 _ (List.getElem_mem hi))
    unfold m_telltalelaw19_BindOnce_l2
    rw [d_lt (by omega), cond_true, geti_lt hi, obind_some, e, obind_some]
    rcases q with rfl | ⟨rfl, q⟩
    · rw [d_lt (by decide), cond_true, awake_ok]; rfl
    · have hlen := fo_len (l.take i) []
      rw [← hs] at hlen
      simp only [List.length_nil, List.length_take] at hlen
      have hmem : ∀ x ∈ s, mB x := fun x hx => by rw [hs] at hx; exact hb x ((fo_mem _ _ _ hx).resolve_left (by simp))
      have hput := putM_len s l[i]
      rw [d_nlt (by decide), cond_false, obind_some, own19_ok q, obind_some, put19_ok (by omega) (fun x hx => by have := (hmem x hx).len; omega), obind_some, w64 (by omega) (by omega), obind_some]
      have hfo : (putM s l[i]).1 = fo [] (l.take (i + 1)) := by rw [take_snoc hi, fo_snoc, hs]
      have hgo := ih (putM s l[i]).1 hfo (take_all hi hb q)
      rw [inc_ok (by omega)]
      cases hp : (putM s l[i]).2
      · rw [hp, if_neg (by simp)] at hput
        rw [decide_eq_false (show ¬ (false ≠ decide (((putM s l[i]).1.length : Int) = (s.length : Int) + 1)) by rw [decide_eq_false (by omega)]; simp), cond_false]
        show cond true _ _ = _
        rw [cond_true, decide_eq_false (by omega), cond_false]
        exact hgo
      · rw [hp, if_pos rfl] at hput
        rw [decide_eq_false (show ¬ (true ≠ decide (((putM s l[i]).1.length : Int) = (s.length : Int) + 1)) by rw [decide_eq_true (by omega)]; simp), cond_false]
        exact hgo
end Go.Proofs.Ytkagljfmfjaleaa.K
