/- Changes: what is at a point, tallies, the program's Normal, Merge, Add, Neg, At: plain. -/
import Derived.Test.YtkpfagmlohcdjaaPstTa
import Derived.Test.YtkpfagmlohcdjaaPcmp
namespace Go.Proofs.Ytkpfagmlohcdjaa.K
open Go.RowKit Go.Lib
set_option linter.unusedVariables false
set_option linter.unusedSimpArgs false
/-! ### points -/
def ordT (x y : GChange) : Int := orI [cmpI x.Loc y.Loc, cmpI x.Time y.Time]
theorem order_ok (x y : GChange) : m_tally_order x y = some (ordT x y) := by
  unfold m_tally_order
  rw [cmp_ok, obind_some, cmp_ok, obind_some, or_ok (by simp), obind_some]; rfl
abbrev ltT : GChange → GChange → Prop := ltc ordT
theorem ltT_iff {x y : GChange} : ltT x y ↔ x.Loc < y.Loc ∨ (x.Loc = y.Loc ∧ x.Time < y.Time) := by
  show ordT x y < 0 ↔ _
  unfold ordT orI orI
  by_cases h : cmpI x.Loc y.Loc ≠ 0
  · rw [if_pos h, cmpI_lt]; have := mt cmpI_zero.2 h; omega
  · have e := cmpI_zero.1 (Classical.not_not.1 h)
    rw [if_neg h]
    by_cases h2 : cmpI x.Time y.Time ≠ 0
    · rw [if_pos h2, cmpI_lt]; omega
    · have e2 := cmpI_zero.1 (Classical.not_not.1 h2)
      rw [if_neg h2]; unfold orI; omega
theorem ordT_zero {x y : GChange} : ordT x y = 0 ↔ x.Loc = y.Loc ∧ x.Time = y.Time := by
  unfold ordT orI orI
  by_cases h : cmpI x.Loc y.Loc ≠ 0
  · rw [if_pos h]; have := fun e => h (cmpI_zero.2 e); exact ⟨fun h2 => absurd h2 h, fun h2 => absurd h2.1 this⟩
  · have e := cmpI_zero.1 (Classical.not_not.1 h)
    rw [if_neg h]
    by_cases h2 : cmpI x.Time y.Time ≠ 0
    · rw [if_pos h2]; have := fun e => h2 (cmpI_zero.2 e); exact ⟨fun h3 => absurd h3 h2, fun h3 => absurd h3.2 this⟩
    · have e2 := cmpI_zero.1 (Classical.not_not.1 h2)
      rw [if_neg h2]; unfold orI; exact ⟨fun _ => ⟨e, e2⟩, fun _ => rfl⟩
theorem ordQ : Ord (fun _ : GChange => True) ltT := ⟨fun x y _ _ h h2 => by rw [ltT_iff] at h h2; omega, fun x y z _ _ _ h h2 h3 => by rw [ltT_iff] at h h2 h3; omega⟩
/-! ### what is at a point -/
def atp : List GChange → Int → Int → Int
  | [], _, _ => 0
  | x :: l, a, b => (if x.Loc = a ∧ x.Time = b then x.N else 0) + atp l a b
def absum : List GChange → Nat
  | [] => 0
  | x :: l => x.N.natAbs + absum l
theorem atp_app : ∀ (l r : List GChange) (a b : Int), atp (l ++ r) a b = atp l a b + atp r a b
  | [], r, a, b => by simp [atp]
  | x :: l, r, a, b => by rw [List.cons_append, atp, atp, atp_app l r]; omega
theorem absum_app : ∀ (l r : List GChange), absum (l ++ r) = absum l + absum r
  | [], r => by simp [absum]
  | x :: l, r => by rw [List.cons_append, absum, absum, absum_app l r]; omega
theorem atp_perm {l r : List GChange} (h : l.Perm r) (a b : Int) : atp l a b = atp r a b := by
  induction h with
  | nil => rfl
  | cons x _ ih => simp only [atp, ih]
  | swap x y l => simp only [atp]; omega
  | trans _ _ h1 h2 => exact h1.trans h2
theorem absum_perm {l r : List GChange} (h : l.Perm r) : absum l = absum r := by
  induction h with
  | nil => rfl
  | cons x _ ih => simp only [absum, ih]
  | swap x y l => simp only [absum]; omega
  | trans _ _ h1 h2 => exact h1.trans h2
theorem atp_abs : ∀ (l : List GChange) (a b : Int), (atp l a b).natAbs ≤ absum l
  | [], a, b => by simp [atp, absum]
  | x :: l, a, b => by
    have := atp_abs l a b
    unfold atp absum
    split <;> omega
theorem absum_mem : ∀ {l : List GChange} {x : GChange}, x ∈ l → x.N.natAbs ≤ absum l
  | y :: l, x, h => by
    unfold absum
    rcases List.mem_cons.1 h with rfl | h
    · omega
    · have := absum_mem h; omega
theorem atp_none : ∀ {l : List GChange} {a b : Int}, (∀ x ∈ l, ¬ (x.Loc = a ∧ x.Time = b)) → atp l a b = 0
  | [], _, _, _ => rfl
  | x :: l, a, b, h => by rw [atp, if_neg (h x (by simp)), atp_none fun y hy => h y (by simp [hy])]; omega
/-! ### tallies -/
/-- Each point once, in order, with something there. -/
def Norm (t : List GChange) : Prop := t.Pairwise ltT ∧ ∀ x ∈ t, x.N ≠ 0
theorem strict_at {t : List GChange} (h : t.Pairwise ltT) : ∀ {x : GChange}, x ∈ t → atp t x.Loc x.Time = x.N := by
  induction t with
  | nil => intro x hx; simp at hx
  | cons y t ih =>
    intro x hx
    have h' := List.pairwise_cons.1 h
    rcases List.mem_cons.1 hx with rfl | hx
    · rw [atp, if_pos ⟨rfl, rfl⟩, atp_none fun z hz => ?_]
      · omega
      · have := ltT_iff.1 (h'.1 z hz); omega
    · rw [atp, if_neg (by have := ltT_iff.1 (h'.1 x hx); omega), ih h'.2 hx]; omega
theorem norm_unique : ∀ {t u : List GChange}, Norm t → Norm u → (∀ a b, atp t a b = atp u a b) → t = u
  | [], [], _, _, _ => rfl
  | [], y :: u, _, hu, h => by
    have := strict_at hu.1 (x := y) (by simp)
    rw [← h] at this
    exact absurd this.symm (hu.2 y (by simp))
  | x :: t, [], ht, _, h => by
    have := strict_at ht.1 (x := x) (by simp)
    rw [h] at this
    exact absurd this.symm (ht.2 x (by simp))
  | x :: t, y :: u, ht, hu, h => by
    have ht' := List.pairwise_cons.1 ht.1
    have hu' := List.pairwise_cons.1 hu.1
    have hx := strict_at ht.1 (x := x) (by simp)
    have hy := strict_at hu.1 (x := y) (by simp)
    have nx := ht.2 x (by simp)
    have ny := hu.2 y (by simp)
    by_cases h1 : ltT x y
    · exfalso; apply nx
      rw [← hx, h]
      refine atp_none fun z hz => ?_
      rw [ltT_iff] at h1
      rcases List.mem_cons.1 hz with rfl | hz
      · omega
      · have := ltT_iff.1 (hu'.1 z hz); omega
    · by_cases h2 : ltT y x
      · exfalso; apply ny
        rw [← hy, ← h]
        refine atp_none fun z hz => ?_
        rw [ltT_iff] at h2
        rcases List.mem_cons.1 hz with rfl | hz
        · omega
        · have := ltT_iff.1 (ht'.1 z hz); omega
      · have e1 : x.Loc = y.Loc := by rw [ltT_iff] at h1 h2; omega
        have e2 : x.Time = y.Time := by rw [ltT_iff] at h1 h2; omega
        have e3 : x.N = y.N := by rw [← hx, ← hy, ← h, e1, e2]
        have e : x = y := by cases x; cases y; simp_all
        subst e
        congr 1
        refine norm_unique ⟨ht'.2, fun z hz => ht.2 z (by simp [hz])⟩ ⟨hu'.2, fun z hz => hu.2 z (by simp [hz])⟩ fun a b => ?_
        have := h a b
        simp only [atp] at this
        omega
def putT : List GChange → GChange → List GChange
  | [], c => if c.N = 0 then [] else [c]
  | x :: t, c => if ltT x c then x :: putT t c else if ltT c x then (if c.N = 0 then x :: t else c :: x :: t) else if x.N + c.N = 0 then t else ⟨x.Loc, x.Time, x.N + c.N⟩ :: t
theorem putT_pt : ∀ {t : List GChange} {c z : GChange}, z ∈ putT t c → (z.Loc = c.Loc ∧ z.Time = c.Time) ∨ ∃ x ∈ t, z.Loc = x.Loc ∧ z.Time = x.Time
  | [], c, z, h => by
    unfold putT at h
    split at h
    · simp at h
    · simp at h; subst h; exact .inl ⟨rfl, rfl⟩
  | x :: t, c, z, h => by
    unfold putT at h
    split at h
    · rcases List.mem_cons.1 h with rfl | h
      · exact .inr ⟨_, by simp, rfl, rfl⟩
      · rcases putT_pt h with h | ⟨y, hy, e⟩
        · exact .inl h
        · exact .inr ⟨y, by simp [hy], e⟩
    · split at h
      · split at h
        · exact .inr ⟨z, h, rfl, rfl⟩
        · rcases List.mem_cons.1 h with rfl | h
          · exact .inl ⟨rfl, rfl⟩
          · exact .inr ⟨z, h, rfl, rfl⟩
      · split at h
        · exact .inr ⟨z, by simp [h], rfl, rfl⟩
        · rcases List.mem_cons.1 h with rfl | h
          · exact .inr ⟨x, by simp, rfl, rfl⟩
          · exact .inr ⟨z, by simp [h], rfl, rfl⟩
theorem putT_ok : ∀ {t : List GChange} (c : GChange), Norm t → Norm (putT t c) ∧ ∀ a b, atp (putT t c) a b = atp t a b + (if c.Loc = a ∧ c.Time = b then c.N else 0)
  | [], c, _ => by
    unfold putT
    split
    · rename_i h; exact ⟨⟨List.Pairwise.nil, by simp⟩, fun a b => by simp [atp, h]⟩
    · rename_i h; exact ⟨⟨List.pairwise_singleton _ _, by simpa using h⟩, fun a b => by simp [atp]⟩
  | x :: t, c, hn => by
    have h' := List.pairwise_cons.1 hn.1
    have ht : Norm t := ⟨h'.2, fun z hz => hn.2 z (by simp [hz])⟩
    unfold putT
    split
    · rename_i hx
      obtain ⟨⟨i1, i2⟩, i3⟩ := putT_ok c ht
      refine ⟨⟨List.pairwise_cons.2 ⟨fun z hz => ?_, i1⟩, fun z hz => ?_⟩, fun a b => ?_⟩
      · rw [ltT_iff] at hx ⊢
        rcases putT_pt hz with ⟨e1, e2⟩ | ⟨y, hy, e1, e2⟩
        · rw [e1, e2]; exact hx
        · rw [e1, e2]; exact ltT_iff.1 (h'.1 y hy)
      · rcases List.mem_cons.1 hz with rfl | hz
        · exact hn.2 _ (by simp)
        · exact i2 z hz
      · simp only [atp, i3]; omega
    · rename_i hx
      split
      · rename_i hc
        split
        · rename_i h0; exact ⟨hn, fun a b => by simp [h0]⟩
        · rename_i h0
          refine ⟨⟨List.pairwise_cons.2 ⟨fun z hz => ?_, hn.1⟩, fun z hz => ?_⟩, fun a b => by simp only [atp]; omega⟩
          · rcases List.mem_cons.1 hz with rfl | hz
            · exact hc
            · have := ltT_iff.1 (h'.1 z hz)
              rw [ltT_iff] at hc ⊢; omega
          · rcases List.mem_cons.1 hz with rfl | hz
            · exact h0
            · exact hn.2 z hz
      · rename_i hc
        have e1 : x.Loc = c.Loc := by rw [ltT_iff] at hx hc; omega
        have e2 : x.Time = c.Time := by rw [ltT_iff] at hx hc; omega
        split
        · rename_i h0
          refine ⟨ht, fun a b => ?_⟩
          simp only [atp, e1, e2]
          split <;> omega
        · rename_i h0
          refine ⟨⟨List.pairwise_cons.2 ⟨fun z hz => ?_, h'.2⟩, fun z hz => ?_⟩, fun a b => ?_⟩
          · have := ltT_iff.1 (h'.1 z hz)
            rw [ltT_iff]; exact this
          · rcases List.mem_cons.1 hz with rfl | hz
            · exact h0
            · exact ht.2 z hz
          · simp only [atp, e1, e2]
            split <;> omega
/-- The tally of changes. -/
def nrm : List GChange → List GChange
  | [] => []
  | x :: l => putT (nrm l) x
theorem nrm_ok : ∀ l : List GChange, Norm (nrm l) ∧ ∀ a b, atp (nrm l) a b = atp l a b
  | [] => ⟨⟨List.Pairwise.nil, by simp [nrm]⟩, fun a b => rfl⟩
  | x :: l => by
    obtain ⟨h1, h2⟩ := nrm_ok l
    obtain ⟨h3, h4⟩ := putT_ok x h1
    exact ⟨h3, fun a b => by rw [nrm, h4, h2, atp]; omega⟩
theorem nrm_norm (l : List GChange) : Norm (nrm l) := (nrm_ok l).1
theorem nrm_at (l : List GChange) (a b : Int) : atp (nrm l) a b = atp l a b := (nrm_ok l).2 a b
theorem nrm_eq {l t : List GChange} (h : Norm t) (ha : ∀ a b, atp t a b = atp l a b) : nrm l = t := norm_unique (nrm_norm l) h fun a b => by rw [nrm_at, ha]
theorem nrm_congr {l r : List GChange} (ha : ∀ a b, atp l a b = atp r a b) : nrm l = nrm r := nrm_eq (nrm_norm r) fun a b => by rw [nrm_at, ha]
theorem nrm_self {t : List GChange} (h : Norm t) : nrm t = t := nrm_eq h fun _ _ => rfl
theorem nrm_pt : ∀ {l : List GChange} {z : GChange}, z ∈ nrm l → ∃ x ∈ l, z.Loc = x.Loc ∧ z.Time = x.Time
  | [], z, h => by simp [nrm] at h
  | x :: l, z, h => by
    rcases putT_pt h with h | ⟨y, hy, e1, e2⟩
    · exact ⟨x, by simp, h⟩
    · obtain ⟨w, hw, e3, e4⟩ := nrm_pt hy
      exact ⟨w, by simp [hw], e1.trans e3, e2.trans e4⟩
theorem putT_len : ∀ (t : List GChange) (c : GChange), (putT t c).length ≤ t.length + 1
  | [], c => by unfold putT; split <;> simp
  | x :: t, c => by
    have := putT_len t c
    unfold putT
    split
    · simp; omega
    · split
      · split <;> simp
      · split <;> simp <;> omega
theorem nrm_len : ∀ l : List GChange, (nrm l).length ≤ l.length
  | [] => by simp [nrm]
  | x :: l => by have := putT_len (nrm l) x; have := nrm_len l; simp only [nrm, List.length_cons]; omega
theorem putT_abs : ∀ (t : List GChange) (c : GChange), absum (putT t c) ≤ absum t + c.N.natAbs
  | [], c => by unfold putT; split <;> simp [absum]
  | x :: t, c => by
    have := putT_abs t c
    unfold putT
    split
    · simp only [absum]; omega
    · split
      · split <;> simp only [absum] <;> omega
      · split <;> simp only [absum] <;> omega
theorem nrm_abs : ∀ l : List GChange, absum (nrm l) ≤ absum l
  | [] => by simp [nrm, absum]
  | x :: l => by have := putT_abs (nrm l) x; have := nrm_abs l; simp only [nrm, absum]; omega
/-! ### the program's Normal -/
theorem cut_0 {α : Type} {l : List α} {b : Nat} (h : b ≤ l.length) : cut l 0 (b : Int) = some (l.take b) := by
  have := cut_ok (Nat.zero_le b) h
  simpa using this
theorem cut_00 {α : Type} {l : List α} : cut l 0 0 = some [] := by
  have := cut_0 (l := l) (Nat.zero_le _)
  simpa using this
theorem index_ok {l : List GChange} (hl : l.length ≤ 100000000) : (m_slices_IndexFunc_Change__tally_Normal_1 l = some (-1) ∧ ∀ x ∈ l, x.N ≠ 0) ∨ ∃ K x R, l = K ++ x :: R ∧ (∀ y ∈ K, y.N ≠ 0) ∧ x.N = 0 ∧ m_slices_IndexFunc_Change__tally_Normal_1 l = some (K.length : Int) := by
  unfold m_slices_IndexFunc_Change__tally_Normal_1
  have := loop1_0 (L := fun fu i => m_slices_IndexFunc_Change__tally_Normal_1_l1 l fu i) (n := l.length) (P := fun i o => (o = some (-1) ∧ ∀ x ∈ l.drop i, x.N ≠ 0) ∨ ∃ K x R, l.drop i = K ++ x :: R ∧ (∀ y ∈ K, y.N ≠ 0) ∧ x.N = 0 ∧ o = some ((i : Int) + (K.length : Int))) (by omega)
    (fun fu => by unfold m_slices_IndexFunc_Change__tally_Normal_1_l1; rw [d_nlt (by omega), cond_false]; exact .inl ⟨rfl, by simp⟩)
    (fun fu i hi ih => by
      unfold m_slices_IndexFunc_Change__tally_Normal_1_l1 m_tally_Normal_1
      rw [d_lt (by omega), cond_true, geti_lt hi, obind_some, obind_some, drop_cons hi]
      by_cases h : l[i].N = 0
      · rw [decide_eq_true h, cond_true]
        exact .inr ⟨[], l[i], _, rfl, by simp, h, by simp⟩
      · rw [decide_eq_false h, cond_false, inc_ok (by omega)]
        rcases ih with ⟨e, q⟩ | ⟨K, x, R, e, q, z, e2⟩
        · exact .inl ⟨e, fun x hx => by
            rcases List.mem_cons.1 hx with rfl | hx
            · exact h
            · exact q x hx⟩
        · refine .inr ⟨l[i] :: K, x, R, by rw [e]; rfl, fun y hy => ?_, z, by rw [e2]; congr 1; simp; omega⟩
          rcases List.mem_cons.1 hy with rfl | hy
          · exact h
          · exact q y hy)
  rcases this with ⟨e, q⟩ | ⟨K, x, R, e, q, z, e2⟩
  · exact .inl ⟨e, by simpa using q⟩
  · exact .inr ⟨K, x, R, by simpa using e, q, z, by simpa using e2⟩
theorem del_l : ∀ (R K J : List GChange) (fu : Nat), R.length < fu → 0 < J.length → K.length + J.length + R.length ≤ 100000000 → m_slices_DeleteFunc_Change__tally_Normal_1_l1 fu (K ++ (J ++ R)) (K.length : Int) ((K.length + J.length : Nat) : Int) = some (K ++ R.filter fun x => decide (x.N ≠ 0))
  | _, _, _, 0, h, _, _ => by omega
  | [], K, J, fu + 1, hf, hJ, hb => by
    unfold m_slices_DeleteFunc_Change__tally_Normal_1_l1
    have hl : (List.length (K ++ (J ++ [])) : Nat) = K.length + J.length := by simp
    rw [hl, d_nlt (by omega), cond_false, chk_ok (by omega)]
    have hc : (clr (K ++ (J ++ [])) (Int.toNat (K.length : Int)) (GChange.mk 0 0 0)) = K ++ List.replicate J.length (GChange.mk 0 0 0) := by
      unfold clr
      rw [Int.toNat_natCast, List.take_left' rfl]; simp
    rw [hc, cut_0 (by simp), obind_some]; simp
  | x :: R, K, J, fu + 1, hf, hJ, hb => by
    simp only [List.length_cons] at hf hb
    unfold m_slices_DeleteFunc_Change__tally_Normal_1_l1 m_tally_Normal_1
    have hl : (List.length (K ++ (J ++ x :: R)) : Nat) = K.length + J.length + R.length + 1 := by simp; omega
    have g : geti (K ++ (J ++ x :: R)) ((K.length + J.length : Nat) : Int) = some x := geti_at (p := K ++ J) (q := R) (by simp) (by simp)
    rw [hl, d_lt (by omega), cond_true, g, obind_some, obind_some]
    obtain ⟨y, J', rfl⟩ : ∃ y J', J = y :: J' := by cases J with | nil => simp at hJ | cons y J' => exact ⟨y, J', rfl⟩
    by_cases h : x.N = 0
    · rw [decide_eq_true h, Bool.not_true, cond_false, inc_ok (by omega)]
      have := del_l R K ((y :: J') ++ [x]) fu (by omega) (by simp) (by simp at hb ⊢; omega)
      rw [List.filter_cons_of_neg (by simp [h])]
      simp only [List.length_append, List.length_singleton, List.append_assoc, List.singleton_append] at this
      exact this
    · rw [decide_eq_false h, Bool.not_false, cond_true, inc_ok (by omega), inc_ok (by omega)]
      have g2 : geti (K ++ (y :: J' ++ x :: R)) (K.length : Int) = some y := geti_at (p := K) (q := J' ++ x :: R) rfl rfl
      have s2 := set_at (l := K ++ (y :: J' ++ x :: R)) (p := K) (x := y) (y := x) (q := J' ++ x :: R) (i := (K.length : Int)) rfl rfl
      rw [g2, obind_some, s2, List.filter_cons_of_pos (by simp [h])]
      have := del_l R (K ++ [x]) (J' ++ [x]) fu (by omega) (by simp) (by simp at hb ⊢; omega)
      have e : K ++ x :: (J' ++ x :: R) = K ++ [x] ++ (J' ++ [x] ++ R) := by simp
      rw [e]
      simp only [List.length_append, List.length_cons, List.length_nil, Nat.zero_add] at this ⊢
      rw [show K.length + (J'.length + 1) + 1 = K.length + 1 + (J'.length + 1) by omega, this]
      simp
theorem delete_ok {l : List GChange} (hl : l.length ≤ 100000000) : m_slices_DeleteFunc_Change__tally_Normal_1 l = some (l.filter fun x => decide (x.N ≠ 0)) := by
  unfold m_slices_DeleteFunc_Change__tally_Normal_1
  rcases index_ok hl with ⟨e, q⟩ | ⟨K, x, R, e, q, z, e2⟩
  · rw [e, obind_some, decide_eq_true rfl, cond_true]
    congr 1
    exact (List.filter_eq_self.2 fun x hx => by simpa using q x hx).symm
  · rw [e2, obind_some, decide_eq_false (by omega), cond_false]
    subst e
    simp only [List.length_append, List.length_cons] at hl
    have := del_l R K [x] 1152921504606846976 (by omega) (by simp) (by simp; omega)
    rw [inc_ok (by omega)]
    have e3 : K ++ x :: R = K ++ ([x] ++ R) := by simp
    rw [e3]
    simp only [List.length_singleton] at this
    have eK : K.filter (fun x => decide (x.N ≠ 0)) = K := List.filter_eq_self.2 fun y hy => by simpa using q y hy
    rw [this, List.filter_append, List.filter_append, eK]
    simp [z]
/-- Behind the points D, out has each once, what is there added up. -/
structure Mrg (D out : List GChange) : Prop where
  st : out.Pairwise ltT
  at_ : ∀ a b, atp out a b = atp D a b
  last : ∀ x, D.getLast? = some x → ∃ O y, out = O ++ [y] ∧ y.Loc = x.Loc ∧ y.Time = x.Time
  abs : absum out ≤ absum D
  len : out.length ≤ D.length
  ge : ∀ z ∈ out, ∃ x ∈ D, z.Loc = x.Loc ∧ z.Time = x.Time
theorem mrg_l {s : List GChange} (hs : Srt ltT s) (ha : absum s ≤ 4611686018427387904) (hl : s.length ≤ 100000000) : ∀ (R D out : List GChange) (fu : Nat), s = D ++ R → R.length < fu → Mrg D out →
    ∃ t, m_tally_Normal_l4 s fu out (D.length : Int) = some (t.filter fun x => decide (x.N ≠ 0)) ∧ Mrg s t
  | _, _, _, 0, _, h, _ => by omega
  | [], D, out, fu + 1, e, hf, hm => by
    have hlD : s.length = D.length := by rw [e]; simp
    unfold m_tally_Normal_l4
    rw [hlD, d_nlt (by omega), cond_false, delete_ok (by have := hm.len; omega), obind_some]
    exact ⟨out, rfl, by rw [e, List.append_nil]; exact hm⟩
  | c :: R, D, out, fu + 1, e, hf, hm => by
    have hlD : s.length = D.length + R.length + 1 := by rw [e]; simp; omega
    have hol := hm.len
    have gc : geti s (D.length : Int) = some c := geti_at e rfl
    have habs : absum s = absum D + (c.N.natAbs + absum R) := by rw [e, absum_app, absum]
    have e' : s = (D ++ [c]) ++ R := by rw [e]; simp
    have hs' := hs
    rw [e, Srt.app] at hs'
    have hoa := hm.abs
    have next : ∀ out', Mrg (D ++ [c]) out' → ∃ t, m_tally_Normal_l4 s fu out' (IntKind.i64.wrap ((D.length : Int) + 1)) = some (t.filter fun x => decide (x.N ≠ 0)) ∧ Mrg s t := fun out' hm' => by
      rw [inc_ok (by omega)]
      have := mrg_l hs ha hl R (D ++ [c]) out' fu e' (by simp at hf; omega) hm'
      simpa using this
    -- a new point
    have fresh : (∀ z ∈ out, ltT z c) → Mrg (D ++ [c]) (out ++ [c]) := fun hz =>
      ⟨List.pairwise_append.2 ⟨hm.st, List.pairwise_singleton _ _, fun a ha b hb => by simp at hb; subst hb; exact hz a ha⟩, fun a b => by rw [atp_app, atp_app, hm.at_], fun x hx => ⟨out, c, rfl, by simp at hx; subst hx; exact ⟨rfl, rfl⟩⟩,
        by rw [absum_app, absum_app]; omega, by simp; omega, fun z hz => by
          rcases List.mem_append.1 hz with hz | hz
          · obtain ⟨x, hx, e⟩ := hm.ge z hz; exact ⟨x, List.mem_append_left _ hx, e⟩
          · simp at hz; subst hz; exact ⟨z, by simp, rfl, rfl⟩⟩
    unfold m_tally_Normal_l4
    rw [d_lt (by omega), cond_true, gc, obind_some]
    by_cases h0 : 0 < D.length
    · rw [d_lt (by omega), cond_true, w64 (n := (D.length : Int) - 1) (by omega) (by omega)]
      obtain ⟨D', d, rfl⟩ : ∃ D' d, D = D' ++ [d] := ⟨D.dropLast, D.getLast (List.ne_nil_of_length_pos h0), (List.dropLast_concat_getLast _).symm⟩
      have hDl : (D' ++ [d]).length = D'.length + 1 := by simp
      have gd : geti s (((D' ++ [d]).length : Int) - 1) = some d := geti_at (p := D') (q := c :: R) (by rw [e]; simp) (by simp)
      rw [gd, obind_some, order_ok, obind_some]
      obtain ⟨O, y, hO, y1, y2⟩ := hm.last d (by simp)
      have hdc : ¬ ltT c d := hs'.2.2 d (by simp) c (by simp)
      by_cases hz : ordT d c = 0
      · rw [decide_eq_true hz, cond_true]
        have hz' := ordT_zero.1 hz
        subst hO
        simp only [List.length_append, List.length_singleton] at hol
        have hOl : (O ++ [y]).length = O.length + 1 := by simp
        have hyN : (y.N).natAbs ≤ absum (O ++ [y]) := absum_mem (by simp)
        have hp : Mrg (D' ++ [d] ++ [c]) (O ++ [⟨y.Loc, y.Time, y.N + c.N⟩]) := by
          have h1 := List.pairwise_append.1 hm.st
          refine ⟨List.pairwise_append.2 ⟨h1.1, List.pairwise_singleton _ _, fun a ha b hb => ?_⟩, fun a b => ?_, fun x hx => ⟨O, _, rfl, ?_⟩, ?_, by simp at hol ⊢; omega, fun z hz => ?_⟩
          · simp at hb; subst hb
            have := ltT_iff.1 (h1.2.2 a ha y (by simp))
            rw [ltT_iff]; exact this
          · have := hm.at_ a b
            rw [atp_app] at this ⊢
            rw [atp_app (D' ++ [d])]
            simp only [atp] at this ⊢
            rw [y1, y2] at this ⊢
            rw [hz'.1, hz'.2] at this ⊢
            by_cases hq : c.Loc = a ∧ c.Time = b
            · simp only [if_pos hq] at this ⊢; omega
            · simp only [if_neg hq] at this ⊢; omega
          · simp at hx; subst hx; exact ⟨y1.trans hz'.1, y2.trans hz'.2⟩
          · have := hm.abs
            rw [absum_app] at this ⊢
            rw [absum_app (D' ++ [d])]
            simp only [absum] at this ⊢
            omega
          · rcases List.mem_append.1 hz with hz | hz
            · obtain ⟨x, hx, e⟩ := hm.ge z (by simp [hz]); exact ⟨x, List.mem_append_left _ hx, e⟩
            · simp at hz; subst hz; exact ⟨d, by simp, y1, y2⟩
        have gl : geti (O ++ [y]) ((O.length : Int) + 1 - 1) = some y := geti_at (p := O) (q := []) rfl (by omega)
        have sl : ∀ v, (O ++ [y]).set (Int.toNat ((O.length : Int) + 1 - 1)) v = O ++ [v] := fun v => set_at (p := O) (q := []) rfl (by omega)
        have hll : ((List.length (O ++ [y]) : Nat) : Int) = (O.length : Int) + 1 := by simp
        have hcN : c.N.natAbs ≤ absum s := by omega
        rw [hll, w64 (n := (O.length : Int) + 1 - 1) (by omega) (by omega), gl, obind_some, obind_some, sl, w64 (n := y.N + c.N) (by omega) (by omega)]
        exact next _ hp
      · rw [decide_eq_false hz, cond_false, app_ok (by simp at hol ⊢; omega), obind_some]
        refine next _ (fresh fun z hzz => ?_)
        have hdl : ltT d c := by
          rw [ltT_iff] at hdc ⊢
          have := mt ordT_zero.2 hz
          omega
        have hzy : z = y ∨ ltT z y := by
          rw [hO] at hzz hm
          rcases List.mem_append.1 hzz with hzz | hzz
          · exact .inr ((List.pairwise_append.1 hm.st).2.2 z hzz y (by simp))
          · simp at hzz; exact .inl hzz
        rw [ltT_iff] at hdl ⊢
        rcases hzy with rfl | hzy
        · omega
        · rw [ltT_iff] at hzy; omega
    · have hD : D = [] := List.eq_nil_of_length_eq_zero (by omega)
      subst hD
      rw [d_nlt (by simp), cond_false]
      have ho : out = [] := List.eq_nil_of_length_eq_zero (by simpa using hol)
      subst ho
      rw [app_ok (by simp), obind_some]
      exact next _ (fresh (by simp))
theorem filter_at : ∀ (t : List GChange) (a b : Int), atp (t.filter fun x => decide (x.N ≠ 0)) a b = atp t a b
  | [], _, _ => rfl
  | x :: t, a, b => by
    have := filter_at t a b
    rw [List.filter_cons]
    split
    · simp only [atp, this]
    · rename_i h
      have : x.N = 0 := by simpa using h
      simp only [atp, filter_at t, this]; split <;> omega
/-- Changes that can be added up: not too many, and not too much of them. -/
def small (l : List GChange) : Prop := l.length ≤ 1000000 ∧ absum l ≤ 1152921504606846976
theorem normal_ok {l : List GChange} (h : small l) : m_tally_Normal l = some (nrm l) := by
  obtain ⟨hl, ha⟩ := h
  unfold m_tally_Normal
  rw [show mkl ((List.length l : Nat) : Int) (GChange.mk 0 0 0) = some (List.replicate l.length (GChange.mk 0 0 0)) by unfold mkl; rw [if_pos (by omega)]; simp,
    obind_some, show cpy (List.replicate l.length (GChange.mk 0 0 0)) l = some l by unfold cpy; rw [if_pos (by simp)]; simp, obind_some]
  unfold m_slices_SortStableFunc_Change__tally_order
  obtain ⟨s, s1, s2, s3⟩ := m_tally_order_sort.stb_ok (Q := fun _ => True) (c := ordT) (fun x y _ _ => order_ok x y) ordQ (l := l) (by omega) (fun _ _ => trivial)
  have hsl := s1.length_eq
  rw [s3, obind_some, obind_some]
  obtain ⟨t, t1, t2⟩ := mrg_l s2 (by rw [absum_perm s1]; omega) (by omega) s [] [] 1152921504606846976 rfl (by omega) ⟨List.Pairwise.nil, fun _ _ => rfl, fun x hx => by simp at hx, Nat.le_refl _, Nat.le_refl _, by simp⟩
  have e0 : ((([] : List GChange).length : Nat) : Int) = 0 := rfl
  rw [e0] at t1
  rw [t1]
  congr 1
  refine (nrm_eq ⟨t2.st.sublist List.filter_sublist, fun x hx => by simpa using (List.mem_filter.1 hx).2⟩ fun a b => ?_).symm
  rw [filter_at, t2.at_, atp_perm s1]
def neg1 (x : GChange) : GChange := ⟨x.Loc, x.Time, -x.N⟩
def negl (l : List GChange) : List GChange := l.map neg1
theorem negl_at : ∀ (l : List GChange) (a b : Int), atp (negl l) a b = - atp l a b
  | [], _, _ => rfl
  | x :: l, a, b => by
    have := negl_at l a b
    simp only [negl, List.map_cons, atp, neg1] at this ⊢
    rw [this]; split <;> omega
theorem negl_abs : ∀ (l : List GChange), absum (negl l) = absum l
  | [] => rfl
  | x :: l => by
    have := negl_abs l
    simp only [negl, List.map_cons, absum, neg1] at this ⊢
    rw [this]; omega
theorem negl_small {l : List GChange} (h : small l) : small (negl l) := ⟨by simp [negl]; exact h.1, by rw [negl_abs]; exact h.2⟩
theorem small_app {a b : List GChange} (ha : a.length ≤ 500000 ∧ absum a ≤ 576460752303423488) (hb : b.length ≤ 500000 ∧ absum b ≤ 576460752303423488) : small (a ++ b) := ⟨by rw [List.length_append]; omega, by rw [absum_app]; omega⟩
end Go.Proofs.Ytkpfagmlohcdjaa.K
