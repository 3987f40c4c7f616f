/- Merged: Peq Pesm Psnm Psch Pso Pev Pevc Pew. -/
import Derived.Test.YtaaooafcijdbmaaDoorZA2
import Derived.Test.YtaaooafcijdbmaaDoorZOC
import Derived.Test.YtaaooafcijdbmaaDoorZAm
import Derived.Test.YtaaooafcijdbmaaDoorRows
import Derived.LaidLaws
import Derived.Handed
set_option linter.unusedVariables false
set_option linter.unusedSimpArgs false
namespace Go.Proofs.YtaaooafcijdbmaaDoor.K
open Go.RowKit Go.Lib
theorem eq_loop {α : Type} [DecidableEq α] {L : Nat → Int → Option Bool} {a b : List α} (hl : a.length = b.length) (hb : a.length ≤ 1000000000) (hend : ∀ fu, L (fu + 1) (a.length : Int) = some true)
    (hstep : ∀ (fu i : Nat) (h1 : i < a.length) (h2 : i < b.length), L (fu + 1) (i : Int) = if a[i] = b[i] then L fu ((i + 1 : Nat) : Int) else some false) : L 1152921504606846976 0 = some (decide (a = b)) := by
  have := loop1_0 (L := L) (n := a.length) (P := fun i o => o = some (decide (a.drop i = b.drop i))) (by omega)
    (fun fu => by
      rw [hend, List.drop_eq_nil_of_le (Nat.le_refl _), List.drop_eq_nil_of_le (by omega)]; rfl)
    (fun fu i hi ih => by
      rw [hstep fu i hi (by omega), drop_cons hi, drop_cons (l := b) (by omega)]
      by_cases h : a[i] = b[i]'(by omega)
      · rw [if_pos h, ih]
        congr 1
        exact decide_eq_decide.2 ⟨fun e => by rw [h, e], fun e => (List.cons.inj e).2⟩
      · rw [if_neg h]
        congr 1
        exact (decide_eq_false fun e => h (List.cons.inj e).1).symm)
  simpa using this
end Go.Proofs.YtaaooafcijdbmaaDoor.K
namespace Go.Proofs.YtaaooafcijdbmaaDoor.K
open Go.RowKit Go.Lib
theorem same4 (v w : GValue) : (decide (((v.Kind.toNat : Nat) : Int) = ((w.Kind.toNat : Nat) : Int)) && (decide (v.N = w.N) && (decide (v.Bits = w.Bits) && (decide (v.Text = w.Text) && true)))) = decide (v = w) := by
  rw [Bool.eq_iff_iff]
  obtain ⟨k, n, b, t⟩ := v
  obtain ⟨k', n', b', t'⟩ := w
  simp only [Bool.and_eq_true, decide_eq_true_eq, and_true, GValue.mk.injEq]
  constructor
  · rintro ⟨h1, h2, h3, h4⟩
    exact ⟨UInt8.toNat_inj.1 (by omega), h2, h3, h4⟩
  · rintro ⟨h1, h2, h3, h4⟩
    exact ⟨by rw [h1], h2, h3, h4⟩
theorem evEq {a b : GEvent} (h1 : a.Time = b.Time) (h2 : a.Source = b.Source) (h3 : a.Seq = b.Seq) (h4 : a.Type_ = b.Type_) (h5 : a.Vals = b.Vals) : a = b := by
  cases a; cases b; simp_all
theorem rsame_ok {a b : GEvent} (ha : a.Vals.length ≤ 1000000) (hb : b.Vals.length ≤ 1000000) : m_r07_Same a b = some (decide (a = b)) := by
  unfold m_r07_Same m_r07_Same_j1
  by_cases h1 : a.Time = b.Time
  · rw [decide_eq_false (by simp [h1]), cond_false]
    by_cases h2 : a.Source = b.Source
    · rw [decide_eq_false (by simp [h2]), cond_false]
      by_cases h3 : a.Seq = b.Seq
      · rw [decide_eq_false (by simp [h3]), cond_false]
        by_cases h4 : a.Type_ = b.Type_
        · rw [decide_eq_false (by simp [h4]), cond_false]
          by_cases h5 : a.Vals.length = b.Vals.length
          · rw [decide_eq_false (by simp [h5]), cond_false]
            have := eq_loop (L := fun fu i => m_r07_Same_l2 a b fu i) (a := a.Vals) (b := b.Vals) h5 (by omega)
              (fun fu => by unfold m_r07_Same_l2; rw [d_nlt (by omega)]; rfl)
              (fun fu i i1 i2 => by
                conv => lhs; unfold m_r07_Same_l2
                rw [d_lt (by omega), cond_true, geti_lt i1, obind_some, geti_lt i2, obind_some, same4, obind_some, inc_ok (by omega)]
                by_cases h : a.Vals[i] = b.Vals[i]
                · rw [decide_eq_true h, if_pos h]; rfl
                · rw [decide_eq_false h, if_neg h]; rfl)
            refine this.trans ?_
            congr 1
            exact decide_eq_decide.2 ⟨fun h => evEq h1 h2 h3 h4 h, fun h => by rw [h]⟩
          · rw [decide_eq_true (by omega), decide_eq_false (fun h : a = b => h5 (by rw [h]))]; rfl
        · rw [decide_eq_true h4, decide_eq_false (fun h : a = b => h4 (by rw [h]))]; rfl
      · rw [decide_eq_true h3, decide_eq_false (fun h : a = b => h3 (by rw [h]))]; rfl
    · rw [decide_eq_true h2, decide_eq_false (fun h : a = b => h2 (by rw [h]))]; rfl
  · rw [decide_eq_true h1, decide_eq_false (fun h : a = b => h1 (by rw [h]))]; rfl
end Go.Proofs.YtaaooafcijdbmaaDoor.K
namespace Go.Proofs.YtaaooafcijdbmaaDoor.K
open Go.RowKit Go.Lib
def lett (c : UInt8) : Bool := decide (97 ≤ c.toNat) && decide (c.toNat ≤ 122)
def tailc (c : UInt8) : Bool := lett c || (decide (48 ≤ c.toNat) && decide (c.toNat ≤ 57)) || decide (c.toNat = 95)
def resW : List (List UInt8) := [[119, 105, 116, 104, 105, 110], [98, 121], [97, 110, 100], [111, 114], [110, 111, 116], [97, 110, 121], [110, 101, 120, 116], [115, 116, 114, 105, 99, 116], [116, 114, 117, 101], [102, 97, 108, 115, 101]]
def resv (s : List UInt8) : Bool := decide (s ∈ resW)
def nameB : List UInt8 → Bool
  | [] => false
  | c :: t => decide (t.length < 12) && !resv (c :: t) && lett c && t.all tailc
theorem nameB_cons (c : UInt8) (t : List UInt8) : nameB (c :: t) = (decide (t.length < 12) && !resv (c :: t) && lett c && t.all tailc) := rfl
theorem letter_ok (c : UInt8) : m_schema_letter c = some (lett c) := by
  unfold m_schema_letter lett
  by_cases h : 97 ≤ c.toNat
  · rw [decide_eq_true (by omega), cond_true, decide_eq_true h, Bool.true_and]
    congr 1; exact decide_eq_decide.2 (by omega)
  · rw [decide_eq_false (by omega), decide_eq_false h]; rfl
theorem tail_ok (c : UInt8) : m_schema_tail c = some (tailc c) := by
  unfold m_schema_tail tailc
  rw [letter_ok, obind_some]
  cases lett c with
  | true => rfl
  | false =>
    rw [cond_false, Bool.false_or]
    have e : decide (((c.toNat : Nat) : Int) = 95) = decide (c.toNat = 95) := decide_eq_decide.2 (by omega)
    rw [e]
    by_cases h : 48 ≤ c.toNat
    · rw [decide_eq_true (by omega), cond_true, decide_eq_true h, Bool.true_and]
      by_cases h2 : c.toNat ≤ 57
      · rw [decide_eq_true (by omega), decide_eq_true h2]; rfl
      · rw [decide_eq_false (by omega), decide_eq_false h2, cond_false, Bool.false_or]
    · rw [decide_eq_false (by omega), decide_eq_false h, cond_false, Bool.false_and, Bool.false_or]
theorem reserved_ok (s : List UInt8) : m_schema_Reserved s = some (resv s) := by
  unfold resv
  by_cases h : s ∈ resW
  · rw [decide_eq_true h]
    simp only [resW, List.mem_cons, List.not_mem_nil, or_false] at h
    rcases h with rfl | rfl | rfl | rfl | rfl | rfl | rfl | rfl | rfl | rfl <;> decide +kernel
  · rw [decide_eq_false h]
    simp only [resW, List.mem_cons, List.not_mem_nil, or_false, not_or] at h
    obtain ⟨h1, h2, h3, h4, h5, h6, h7, h8, h9, h10⟩ := h
    unfold m_schema_Reserved m_schema_Reserved_j0
    rw [decide_eq_false h1, cond_false, decide_eq_false h2, cond_false, decide_eq_false h3, cond_false, decide_eq_false h4, cond_false, decide_eq_false h5, cond_false, decide_eq_false h6, cond_false, decide_eq_false h7, cond_false, decide_eq_false h8, cond_false, decide_eq_false h9, cond_false, decide_eq_false h10, cond_false]
theorem rres_step (s : List UInt8) (fu i : Nat) : m_r06_Reserved_l0 s (fu + 1) (i : Int) = cond (decide ((i : Int) < ((resW.length : Nat) : Int))) (Option.bind (geti resW (i : Int)) fun x => cond (decide (x = s)) (some true) (m_r06_Reserved_l0 s fu (IntKind.i64.wrap ((i : Int) + 1)))) (some false) := rfl
theorem rreserved_ok (s : List UInt8) : m_r06_Reserved s = some (resv s) := by
  unfold m_r06_Reserved resv
  have := loop1_0 (L := fun fu i => m_r06_Reserved_l0 s fu i) (n := resW.length) (P := fun i o => o = some (decide (s ∈ resW.drop i))) (by decide)
    (fun fu => by rw [rres_step, d_nlt (by omega), List.drop_of_length_le (Nat.le_refl _)]; rfl)
    (fun fu i hi ih => by
      have hl : resW.length = 10 := rfl
      rw [rres_step, d_lt (by omega), cond_true, geti_lt hi, obind_some, inc_ok (by omega), ih, drop_cons hi]
      by_cases h : resW[i] = s
      · rw [decide_eq_true h, cond_true, decide_eq_true (by rw [h]; simp)]
      · rw [decide_eq_false h, cond_false]
        congr 1
        exact decide_eq_decide.2 ⟨fun q => List.mem_cons_of_mem _ q, fun q => (List.mem_cons.1 q).resolve_left fun e => h e.symm⟩)
  rw [List.drop_zero] at this; exact this
theorem name_l {s : List UInt8} (hs : s.length ≤ 1000) (fu i : Nat) (h1 : i ≤ s.length) (h2 : s.length - i < fu) : m_schema_Name_l2 s fu (i : Int) = some ((s.drop i).all tailc) :=
  loop1 (L := fun fu i => m_schema_Name_l2 s fu i) (n := s.length) (P := fun i o => o = some ((s.drop i).all tailc))
    (fun fu => by unfold m_schema_Name_l2; rw [d_nlt (by omega), List.drop_of_length_le (Nat.le_refl _)]; rfl)
    (fun fu i hi ih => by
      unfold m_schema_Name_l2
      rw [d_lt (by omega), cond_true, geti_lt hi, obind_some, tail_ok, obind_some, inc_ok (by omega), ih, drop_cons hi, List.all_cons]
      cases tailc s[i] <;> rfl) fu i h1 h2
theorem name_ok (s : List UInt8) : m_schema_Name s = some (nameB s) := by
  unfold m_schema_Name m_schema_Name_j1
  cases s with
  | nil => rfl
  | cons c t =>
    rw [decide_eq_false (by simp), cond_false]
    rw [nameB_cons]
    by_cases h : t.length < 12
    · rw [d_nlt (by simp; omega), cond_false, geti_0, obind_some, letter_ok, obind_some, reserved_ok, obind_some, decide_eq_true h, Bool.true_and]
      cases lett c with
      | false => simp
      | true =>
        cases resv (c :: t) with
        | true => rfl
        | false =>
          have := name_l (s := c :: t) (by simp; omega) 1152921504606846976 1 (by simp) (by simp; omega)
          simpa using this
    · rw [d_lt (by simp; omega), decide_eq_false h]; rfl
theorem rn_step {s : List UInt8} {i : Nat} (hi : i < s.length) (hs : s.length ≤ 1000) (fu : Nat) : m_r06_Name_l2 s (fu + 1) (i : Int) =
    if lett s[i] = true then m_r06_Name_l2 s fu ((i + 1 : Nat) : Int) else if i = 0 then some false else if tailc s[i] = true then m_r06_Name_l2 s fu ((i + 1 : Nat) : Int) else some false := by
  conv => lhs; unfold m_r06_Name_l2 m_r06_Name_j6 m_r06_Name_j10 m_r06_Name_j11
  rw [d_lt (by omega), cond_true, geti_lt hi, inc_ok (by omega)]
  simp only [obind_some]
  unfold tailc lett
  generalize hc : s[i].toNat = c
  by_cases h1 : 97 ≤ c <;> by_cases h2 : c ≤ 122 <;> by_cases h3 : 48 ≤ c <;> by_cases h4 : c ≤ 57 <;> by_cases h5 : c = 95 <;> by_cases h6 : i = 0 <;>
    first
    | (exfalso; omega)
    | (rw [show decide ((97 : Int) ≤ (c : Int)) = decide (97 ≤ c) from decide_eq_decide.2 (by omega), show decide ((48 : Int) ≤ (c : Int)) = decide (48 ≤ c) from decide_eq_decide.2 (by omega), show decide ((c : Int) ≤ 57) = decide (c ≤ 57) from decide_eq_decide.2 (by omega), show decide ((c : Int) ≤ 122) = decide (c ≤ 122) from decide_eq_decide.2 (by omega), show decide ((c : Int) = 95) = decide (c = 95) from decide_eq_decide.2 (by omega), show decide ((i : Int) = 0) = decide (i = 0) from decide_eq_decide.2 (by omega)]; simp [h1, h2, h3, h4, h5, h6])
theorem rname_ok (s : List UInt8) : m_r06_Name s = some (nameB s) := by
  unfold m_r06_Name m_r06_Name_j1
  cases s with
  | nil => rfl
  | cons c t =>
    rw [d_nlt (by simp; omega), cond_false]
    rw [nameB_cons]
    by_cases h : t.length < 12
    · rw [d_nlt (by simp; omega), cond_false, rreserved_ok, obind_some, decide_eq_true h, Bool.true_and]
      cases resv (c :: t) with
      | true => rfl
      | false =>
        have hlen : (c :: t).length ≤ 12 := by simp; omega
        have := loop1_0 (L := fun fu i => m_r06_Name_l2 (c :: t) fu i) (n := (c :: t).length) (P := fun i o => o = some (if i = 0 then lett c && t.all tailc else ((c :: t).drop i).all tailc)) (by simp; omega)
          (fun fu => by unfold m_r06_Name_l2; rw [d_nlt (by omega), List.drop_of_length_le (Nat.le_refl _)]; simp)
          (fun fu i hi ih => by
            rw [if_neg (Nat.succ_ne_zero i)] at ih
            rw [rn_step hi (by omega), ih]
            cases i with
            | zero =>
              show (if lett c = true then some (t.all tailc) else if (0 : Nat) = 0 then some false else if tailc c = true then some (t.all tailc) else some false) = some (if (0 : Nat) = 0 then lett c && t.all tailc else (c :: t).all tailc)
              cases lett c <;> rfl
            | succ i =>
              rw [if_neg (Nat.succ_ne_zero i), if_neg (Nat.succ_ne_zero i), drop_cons hi, List.all_cons]
              by_cases h1 : lett (c :: t)[i + 1] = true
              · rw [if_pos h1, show tailc (c :: t)[i + 1] = true by unfold tailc; rw [h1]; rfl]; rfl
              · rw [if_neg h1]
                cases tailc (c :: t)[i + 1] <;> rfl)
        rw [if_pos rfl] at this
        rw [cond_false, this]; rfl
    · rw [d_lt (by simp; omega), decide_eq_false h]; rfl
end Go.Proofs.YtaaooafcijdbmaaDoor.K
namespace Go.Proofs.YtaaooafcijdbmaaDoor.K
open Go.RowKit Go.Lib
/-- A loop that looks for one of a list. -/
theorem any_loop {α R : Type} {L : Nat → Int → Option R} {A : List α} {q : α → Bool} {y n : Option R} (hA : A.length ≤ 1000000000) (hend : ∀ fu, L (fu + 1) (A.length : Int) = n)
    (hstep : ∀ (fu j : Nat) (h : j < A.length), L (fu + 1) (j : Int) = if q A[j] = true then y else L fu ((j + 1 : Nat) : Int)) : L 1152921504606846976 0 = if A.any q = true then y else n := by
  have := loop1_0 (L := L) (n := A.length) (P := fun j o => o = if (A.drop j).any q = true then y else n) (by omega)
    (fun fu => by rw [hend, List.drop_of_length_le (Nat.le_refl _), if_neg (by simp)])
    (fun fu j hj ih => by
      rw [hstep fu j hj, ih, drop_cons hj, List.any_cons]
      cases q A[j] with
      | true => rw [if_pos rfl, Bool.true_or, if_pos rfl]
      | false => rw [if_neg (by simp), Bool.false_or])
  rw [List.drop_zero] at this; exact this
def kindB (k : UInt8) : Bool := decide (k.toNat = 1) || decide (k.toNat = 2) || decide (k.toNat = 3) || decide (k.toNat = 4)
theorem word_k (k : UInt8) : ∃ w, m_value_Word k = some w ∧ m_r04_Word k = some w ∧ decide (w = []) = !kindB k := by
  unfold m_value_Word m_r04_Word kindB
  by_cases h1 : k.toNat = 1
  · rw [decide_eq_true (p := ((k.toNat : Nat) : Int) = 1) (by omega)]; exact ⟨_, rfl, rfl, by simp [h1]⟩
  rw [decide_eq_false (p := ((k.toNat : Nat) : Int) = 1) (by omega)]
  by_cases h2 : k.toNat = 2
  · rw [decide_eq_true (p := ((k.toNat : Nat) : Int) = 2) (by omega)]; exact ⟨_, rfl, rfl, by simp [h2]⟩
  rw [decide_eq_false (p := ((k.toNat : Nat) : Int) = 2) (by omega)]
  by_cases h3 : k.toNat = 3
  · rw [decide_eq_true (p := ((k.toNat : Nat) : Int) = 3) (by omega)]; exact ⟨_, rfl, rfl, by simp [h3]⟩
  rw [decide_eq_false (p := ((k.toNat : Nat) : Int) = 3) (by omega)]
  by_cases h4 : k.toNat = 4
  · rw [decide_eq_true (p := ((k.toNat : Nat) : Int) = 4) (by omega)]; exact ⟨_, rfl, rfl, by simp [h4]⟩
  rw [decide_eq_false (p := ((k.toNat : Nat) : Int) = 4) (by omega)]
  exact ⟨_, rfl, rfl, by simp [h1, h2, h3, h4]⟩
/-- The place of a field by its name, and its kind. -/
def fAt : List GField → List UInt8 → Nat → Int × UInt8
  | [], _, _ => (-1, 0)
  | f :: r, n, i => if f.Name = n then ((i : Int), f.Kind) else fAt r n (i + 1)
theorem field_ok {t : GType} (n : List UInt8) (h : t.Fields.length ≤ 1000) : m_schema_Type_Field t n = some (fAt t.Fields n 0) := by
  unfold m_schema_Type_Field
  have := loop1_0 (L := fun fu i => m_schema_Type_Field_l1 t n fu i) (n := t.Fields.length) (P := fun i o => o = some (fAt (t.Fields.drop i) n i)) (by omega)
    (fun fu => by unfold m_schema_Type_Field_l1; rw [d_nlt (by omega), List.drop_of_length_le (Nat.le_refl _)]; rfl)
    (fun fu i hi ih => by
      unfold m_schema_Type_Field_l1
      rw [d_lt (by omega), cond_true, geti_lt hi, obind_some, inc_ok (by omega), ih, drop_cons hi, fAt]
      by_cases hn : t.Fields[i].Name = n
      · rw [decide_eq_true hn, if_pos hn]; rfl
      · rw [decide_eq_false hn, if_neg hn]; rfl)
  rw [List.drop_zero] at this; exact this
def hasN (l : List GField) (n : List UInt8) : Bool := l.any fun f => decide (f.Name = n)
theorem fAt_pre : ∀ (pre : List GField) (f : GField) (r : List GField) (k : Nat), decide ((fAt (pre ++ f :: r) f.Name k).1 ≠ ((k + pre.length : Nat) : Int)) = hasN pre f.Name
  | [], f, r, k => by
    rw [List.nil_append, fAt, if_pos rfl]; simp [hasN]
  | g :: pre, f, r, k => by
    have ih := fAt_pre pre f r (k + 1)
    rw [List.cons_append, fAt]
    unfold hasN at ih ⊢
    rw [List.any_cons]
    by_cases h : g.Name = f.Name
    · rw [if_pos h, decide_eq_true h, Bool.true_or]; simp only [List.length_cons]; exact decide_eq_true (by omega)
    · rw [if_neg h, decide_eq_false h, Bool.false_or, ← ih, List.length_cons]
      exact decide_eq_decide.2 (by rw [show k + (pre.length + 1) = k + 1 + pre.length by omega])
def fldC : List GField → List GField → Int
  | _, [] => 0
  | pre, f :: r => if nameB f.Name = false then 4 else if kindB f.Kind = false then 11 else if hasN pre f.Name = true then 21 else fldC (pre ++ [f]) r
def typC (t : GType) : Int := if nameB t.Name = false then 4 else if 6 < t.Fields.length then 5 else fldC [] t.Fields
theorem split_at {α : Type} {l : List α} {i : Nat} (h : i < l.length) : l = l.take i ++ l[i] :: l.drop (i + 1) := by
  rw [← drop_cons h, List.take_append_drop]
theorem tcheck_ok {t : GType} (h : t.Fields.length ≤ 1000) : m_schema_Type_check t = some (typC t) := by
  unfold m_schema_Type_check typC
  rw [name_ok, obind_some]
  cases nameB t.Name with
  | false => rfl
  | true =>
    rw [if_neg (by simp), Bool.not_true, cond_false]
    by_cases h6 : 6 < t.Fields.length
    · rw [d_lt (by omega), if_pos h6]; rfl
    · rw [d_nlt (by omega), if_neg h6, cond_false]
      have := loop1_0 (L := fun fu i => m_schema_Type_check_l3 t fu i) (n := t.Fields.length) (P := fun i o => o = some (fldC (t.Fields.take i) (t.Fields.drop i))) (by omega)
        (fun fu => by unfold m_schema_Type_check_l3; rw [d_nlt (by omega), List.drop_of_length_le (Nat.le_refl _)]; rfl)
        (fun fu i hi ih => by
          unfold m_schema_Type_check_l3
          obtain ⟨w, e1, _, e3⟩ := word_k t.Fields[i].Kind
          have e4 := fAt_pre (t.Fields.take i) t.Fields[i] (t.Fields.drop (i + 1)) 0
          rw [← split_at hi, List.length_take, Nat.min_eq_left (by omega), Nat.zero_add] at e4
          rw [d_lt (by omega), cond_true, geti_lt hi, obind_some, field_ok _ h, obind_some, name_ok, obind_some, e1, obind_some, e3, e4, inc_ok (by omega), ih, drop_cons hi, fldC, take_snoc hi]
          cases nameB t.Fields[i].Name with
          | false => rfl
          | true =>
            rw [if_neg (by simp), Bool.not_true, cond_false]
            cases kindB t.Fields[i].Kind with
            | false => rfl
            | true =>
              rw [if_neg (by simp), Bool.not_true, cond_false]
              cases hasN (t.Fields.take i) t.Fields[i].Name with
              | false => rfl
              | true => rfl)
      exact this
theorem rone_ok {t : GType} (h : t.Fields.length ≤ 1000) : m_r06_one t = some (typC t) := by
  unfold m_r06_one typC
  rw [rname_ok, obind_some]
  cases nameB t.Name with
  | false => rfl
  | true =>
    rw [if_neg (by simp), Bool.not_true, cond_false]
    by_cases h6 : 6 < t.Fields.length
    · rw [d_lt (by omega), if_pos h6]; rfl
    · rw [d_nlt (by omega), if_neg h6, cond_false]
      have := loop1_0 (L := fun fu i => m_r06_one_l2 t fu i) (n := t.Fields.length) (P := fun i o => o = some (fldC (t.Fields.take i) (t.Fields.drop i))) (by omega)
        (fun fu => by unfold m_r06_one_l2; rw [d_nlt (by omega), List.drop_of_length_le (Nat.le_refl _)]; rfl)
        (fun fu i hi ih => by
          unfold m_r06_one_l2
          obtain ⟨w, _, e1, e3⟩ := word_k t.Fields[i].Kind
          have hA : (t.Fields.take i).length = i := by rw [List.length_take]; omega
          have e4 : _ = if hasN (t.Fields.take i) t.Fields[i].Name = true then _ else _ := any_loop (L := fun fu2 j => m_r06_one_l7 t t.Fields[i] (i : Int) (fun y3_2 => m_r06_one_l2 t fu y3_2) fu2 j) (A := t.Fields.take i) (q := fun f => decide (f.Name = t.Fields[i].Name)) (y := some 21) (n := m_r06_one_l2 t fu ((i + 1 : Nat) : Int)) (by omega)
            (fun fu2 => by unfold m_r06_one_l7; rw [hA, d_nlt (by omega), cond_false, inc_ok (by omega)])
            (fun fu2 j hj => by
              conv => lhs; unfold m_r06_one_l7
              rw [d_lt (by omega), cond_true, geti_lt (by omega), obind_some, inc_ok (by omega), List.getElem_take]
              cases decide (t.Fields[j].Name = t.Fields[i].Name) <;> rfl)
          rw [d_lt (by omega), cond_true, geti_lt hi, obind_some, rname_ok, obind_some, e1, obind_some, e3, e4, ih, drop_cons hi, fldC, take_snoc hi]
          cases nameB t.Fields[i].Name with
          | false => rfl
          | true =>
            cases kindB t.Fields[i].Kind with
            | false => rfl
            | true =>
              cases hasN (t.Fields.take i) t.Fields[i].Name with
              | false => rfl
              | true => rfl)
      exact this
/-! ### lists of types -/
def hasT (l : List GType) (n : List UInt8) : Bool := l.any fun t => decide (t.Name = n)
def schL : List GType → List GType → Int
  | _, [] => 0
  | pre, t :: r => if typC t ≠ 0 then typC t else if hasT pre t.Name = true then 21 else schL (pre ++ [t]) r
def schC (l : List GType) : Int := if 8 < l.length then 5 else schL [] l
def fnd : List GType → List UInt8 → GType × Bool
  | [], _ => (GType.mk [] [], false)
  | t :: r, n => if t.Name = n then (t, true) else fnd r n
theorem fnd_2 (n : List UInt8) : ∀ l : List GType, (fnd l n).2 = hasT l n
  | [] => rfl
  | t :: r => by
    have ih := fnd_2 n r
    rw [fnd]; unfold hasT at ih ⊢
    rw [List.any_cons]
    by_cases h : t.Name = n
    · rw [if_pos h, decide_eq_true h, Bool.true_or]
    · rw [if_neg h, decide_eq_false h, Bool.false_or, ih]
theorem find_ok {l : List GType} (n : List UInt8) (h : l.length ≤ 1000) (hf : ∀ t ∈ l, t.Fields.length ≤ 1000) : m_schema_Find l n = some (fnd l n) := by
  unfold m_schema_Find
  have := loop1_0 (L := fun fu i => m_schema_Find_l1 l n fu i) (n := l.length) (P := fun i o => o = some (fnd (l.drop i) n)) (by omega)
    (fun fu => by unfold m_schema_Find_l1; rw [d_nlt (by omega), List.drop_of_length_le (Nat.le_refl _)]; rfl)
    (fun fu i hi ih => by
      have hfi := hf _ (List.getElem_mem hi)
      unfold m_schema_Find_l1 m_slices_Clone_Field
      rw [d_lt (by omega), cond_true, geti_lt hi, obind_some, inc_ok (by omega), ih, drop_cons hi, fnd, app_ok (by simp; omega), obind_some, obind_some, List.nil_append]
      by_cases hn : l[i].Name = n
      · rw [decide_eq_true hn, if_pos hn]; subst hn; rfl
      · rw [decide_eq_false hn, if_neg hn]; rfl)
  rw [List.drop_zero] at this; exact this
theorem rfind_ok {l : List GType} (n : List UInt8) (h : l.length ≤ 1000) : m_r06_Find l n = some (fnd l n) := by
  unfold m_r06_Find
  have := loop1_0 (L := fun fu i => m_r06_Find_l0 l n fu i) (n := l.length) (P := fun i o => o = some (fnd (l.drop i) n)) (by omega)
    (fun fu => by unfold m_r06_Find_l0; rw [d_nlt (by omega), List.drop_of_length_le (Nat.le_refl _)]; rfl)
    (fun fu i hi ih => by
      unfold m_r06_Find_l0
      rw [d_lt (by omega), cond_true, geti_lt hi, obind_some, inc_ok (by omega), ih, drop_cons hi, fnd]
      by_cases hn : l[i].Name = n
      · rw [decide_eq_true hn, if_pos hn]; rfl
      · rw [decide_eq_false hn, if_neg hn]; rfl)
  rw [List.drop_zero] at this; exact this
theorem scheck_ok {l : List GType} (h : l.length ≤ 1000) (hf : ∀ t ∈ l, t.Fields.length ≤ 1000) : m_schema_Check l = some (schC l) := by
  unfold m_schema_Check schC
  by_cases h8 : 8 < l.length
  · rw [d_lt (by omega), if_pos h8]; rfl
  · rw [d_nlt (by omega), if_neg h8, cond_false]
    have := loop1_0 (L := fun fu i => m_schema_Check_l2 l fu i) (n := l.length) (P := fun i o => o = some (schL (l.take i) (l.drop i))) (by omega)
      (fun fu => by unfold m_schema_Check_l2; rw [d_nlt (by omega), List.drop_of_length_le (Nat.le_refl _)]; rfl)
      (fun fu i hi ih => by
        have hfi := hf _ (List.getElem_mem hi)
        have hc : cut l 0 (i : Int) = some (l.take i) := by
          have := cut_ok (l := l) (a := 0) (b := i) (by omega) (by omega)
          rwa [List.drop_zero, Nat.sub_zero] at this
        unfold m_schema_Check_l2
        rw [d_lt (by omega), cond_true, geti_lt hi, obind_some, tcheck_ok hfi, obind_some, bind_of hc, find_ok _ (by rw [List.length_take]; omega) (fun t ht => hf t (List.mem_of_mem_take ht)), obind_some, fnd_2, inc_ok (by omega), ih, drop_cons hi, schL, take_snoc hi]
        by_cases h0 : typC l[i] ≠ 0
        · rw [decide_eq_true h0, if_pos h0]; rfl
        · rw [decide_eq_false h0, if_neg h0, cond_false]
          cases hasT (l.take i) l[i].Name with
          | false => rfl
          | true => rfl)
    exact this
theorem rscheck_ok {l : List GType} (h : l.length ≤ 1000) (hf : ∀ t ∈ l, t.Fields.length ≤ 1000) : m_r06_Check l = some (schC l) := by
  unfold m_r06_Check schC
  by_cases h8 : 8 < l.length
  · rw [d_lt (by omega), if_pos h8]; rfl
  · rw [d_nlt (by omega), if_neg h8, cond_false]
    have := loop1_0 (L := fun fu i => m_r06_Check_l1 l fu i) (n := l.length) (P := fun i o => o = some (schL (l.take i) (l.drop i))) (by omega)
      (fun fu => by unfold m_r06_Check_l1; rw [d_nlt (by omega), List.drop_of_length_le (Nat.le_refl _)]; rfl)
      (fun fu i hi ih => by
        have hfi := hf _ (List.getElem_mem hi)
        unfold m_r06_Check_l1
        have hA : (l.take i).length = i := by rw [List.length_take]; omega
        have e4 : _ = if hasT (l.take i) l[i].Name = true then _ else _ := any_loop (L := fun fu2 j => m_r06_Check_l4 l (i : Int) (fun y3_1 => m_r06_Check_l1 l fu y3_1) fu2 j) (A := l.take i) (q := fun t => decide (t.Name = l[i].Name)) (y := some 21) (n := m_r06_Check_l1 l fu ((i + 1 : Nat) : Int)) (by omega)
          (fun fu2 => by unfold m_r06_Check_l4; rw [hA, d_nlt (by omega), cond_false, inc_ok (by omega)])
          (fun fu2 j hj => by
            conv => lhs; unfold m_r06_Check_l4
            rw [d_lt (by omega), cond_true, geti_lt (by omega), obind_some, geti_lt hi, obind_some, inc_ok (by omega), List.getElem_take]
            cases decide (l[j].Name = l[i].Name) <;> rfl)
        rw [d_lt (by omega), cond_true, geti_lt hi, obind_some, rone_ok hfi, obind_some, e4, ih, drop_cons hi, schL, take_snoc hi]
        by_cases h0 : typC l[i] ≠ 0
        · rw [decide_eq_true h0, if_pos h0]; rfl
        · rw [decide_eq_false h0, if_neg h0, cond_false]
          cases hasT (l.take i) l[i].Name with
          | false => rfl
          | true => rfl)
    exact this
/-! ### values that fit -/
def fitL : List GField → List GValue → Int
  | _, [] => 0
  | [], _ :: _ => 0
  | f :: fs, v :: vs => if chkV v ≠ 0 then chkV v else if v.Kind.toNat ≠ f.Kind.toNat then 19 else fitL fs vs
def fitC (fs : List GField) (vs : List GValue) : Int := if vs.length ≠ fs.length then 5 else fitL fs vs
theorem fits_ok {t : GType} {vs : List GValue} (h : vs.length ≤ 1000) (hf : t.Fields.length ≤ 1000) (hb : ∀ v ∈ vs, u64B v.Bits) : m_schema_Fits t vs = some (fitC t.Fields vs) := by
  unfold m_schema_Fits fitC
  by_cases hl : vs.length ≠ t.Fields.length
  · rw [decide_eq_true (by omega), if_pos hl]; rfl
  · rw [decide_eq_false (by omega), if_neg hl, cond_false]
    have := loop1_0 (L := fun fu i => m_schema_Fits_l2 t vs fu i) (n := vs.length) (P := fun i o => o = some (fitL (t.Fields.drop i) (vs.drop i))) (by omega)
      (fun fu => by unfold m_schema_Fits_l2; rw [d_nlt (by omega), List.drop_of_length_le (Nat.le_refl _), List.drop_of_length_le (by omega)]; rfl)
      (fun fu i hi ih => by
        have hbi := hb _ (List.getElem_mem hi)
        have hi2 : i < t.Fields.length := by omega
        unfold m_schema_Fits_l2
        rw [d_lt (by omega), cond_true, geti_lt hi, obind_some, check_ok hbi, obind_some, geti_lt hi2, obind_some, inc_ok (by omega), ih, drop_cons hi, drop_cons hi2, fitL]
        by_cases h0 : chkV vs[i] ≠ 0
        · rw [decide_eq_true h0, if_pos h0]; rfl
        · rw [decide_eq_false h0, if_neg h0, cond_false]
          by_cases h1 : vs[i].Kind.toNat ≠ (t.Fields[i]'(by omega)).Kind.toNat
          · rw [decide_eq_true (by omega), if_pos h1]; rfl
          · rw [decide_eq_false (by omega), if_neg h1]; rfl)
    exact this
theorem rfits_ok {t : GType} {vs : List GValue} (h : vs.length ≤ 1000) (hf : t.Fields.length ≤ 1000) (hb : ∀ v ∈ vs, u64B v.Bits) : m_r06_Fits t vs = some (fitC t.Fields vs) := by
  unfold m_r06_Fits fitC
  by_cases hl : vs.length ≠ t.Fields.length
  · rw [decide_eq_true (by omega), if_pos hl]; rfl
  · rw [decide_eq_false (by omega), if_neg hl, cond_false]
    have := loop1_0 (L := fun fu i => m_r06_Fits_l1 t vs fu i) (n := vs.length) (P := fun i o => o = some (fitL (t.Fields.drop i) (vs.drop i))) (by omega)
      (fun fu => by unfold m_r06_Fits_l1; rw [d_nlt (by omega), List.drop_of_length_le (Nat.le_refl _), List.drop_of_length_le (by omega)]; rfl)
      (fun fu i hi ih => by
        have hbi := hb _ (List.getElem_mem hi)
        have hi2 : i < t.Fields.length := by omega
        unfold m_r06_Fits_l1
        rw [d_lt (by omega), cond_true, geti_lt hi, obind_some, rcheck_ok hbi, obind_some, obind_some, geti_lt hi2, obind_some, inc_ok (by omega), ih, drop_cons hi, drop_cons hi2, fitL]
        by_cases h0 : chkV vs[i] ≠ 0
        · rw [decide_eq_true h0, if_pos h0]; rfl
        · rw [decide_eq_false h0, if_neg h0, cond_false]
          by_cases h1 : vs[i].Kind.toNat ≠ (t.Fields[i]'(by omega)).Kind.toNat
          · rw [decide_eq_true (by omega), if_pos h1]; rfl
          · rw [decide_eq_false (by omega), if_neg h1]; rfl)
    exact this
end Go.Proofs.YtaaooafcijdbmaaDoor.K
namespace Go.Proofs.YtaaooafcijdbmaaDoor.K
open Go.RowKit Go.Lib
/-- A loop that lays f of each behind what there is, and goes on. -/
theorem map_loopK {α β R : Type} {L : Nat → List β → Int → Option R} {l : List α} {f : α → β} {K : List β → Option R} (hl : l.length ≤ 400000000)
    (hend : ∀ fu s, L (fu + 1) s (l.length : Int) = K s) (hstep : ∀ fu s i, (h : i < l.length) → s.length ≤ 400000000 → L (fu + 1) s (i : Int) = L fu (s ++ [f l[i]]) ((i + 1 : Nat) : Int)) : L 1152921504606846976 [] 0 = K (l.map f) := by
  have := loopG_0 (L := L) (n := l.length) (P := fun i s o => s.length = i → o = K (s ++ (l.drop i).map f)) (by omega) (fun fu s hs => by rw [hend]; simp) (fun fu s i hi ih hs => by
    rw [hstep fu s i hi (by omega), ih (s ++ [f l[i]]) (by simp [hs]), drop_cons hi, List.map_cons, List.append_assoc]; rfl) [] rfl
  simpa using this
/-- Short enough. -/
structure tyB (t : GType) : Prop where
  N : t.Name.length ≤ 40
  F : t.Fields.length ≤ 12
  M : ∀ f ∈ t.Fields, f.Name.length ≤ 40
structure tyM (t : GType) : Prop where
  N : t.Name.length ≤ maxLen
  F : t.Fields.length ≤ maxLen
  M : ∀ f ∈ t.Fields, f.Name.length ≤ maxLen
structure scB (l : List GType) : Prop where
  L : l.length ≤ 12
  T : ∀ t ∈ l, tyB t
theorem over06_ok {l : List GType} (hl : l.length ≤ maxLen) (hm : ∀ t ∈ l, tyM t) : ∃ r, m_w06_Over l = some r ∧ (r = 1 ∨ r = 0 ∧ scB l) := by
  unfold m_w06_Over
  have hl := maxLen_le hl
  by_cases h : 12 < l.length
  · rw [d_lt (by omega)]; exact ⟨1, rfl, .inl rfl⟩
  · rw [d_nlt (by omega), cond_false]
    have := loop1_0 (L := fun fu i => m_w06_Over_l1 l fu i) (n := l.length) (P := fun i o => ∃ r, o = some r ∧ (r = 1 ∨ r = 0 ∧ ∀ t ∈ l.drop i, tyB t)) (by omega)
      (fun fu => by unfold m_w06_Over_l1; rw [d_nlt (by omega)]; exact ⟨0, rfl, .inr ⟨rfl, by simp⟩⟩)
      (fun fu i hi ih => by
        have hmi := hm l[i] (List.getElem_mem hi)
        have h1 := maxLen_le hmi.N
        have h2 := maxLen_le hmi.F
        unfold m_w06_Over_l1
        rw [d_lt (by omega), cond_true, geti_lt hi, obind_some]
        by_cases ht : 40 < l[i].Name.length
        · rw [d_lt (by omega)]; exact ⟨1, rfl, .inl rfl⟩
        · rw [d_nlt (by omega), cond_false, obind_some]
          by_cases hv : 12 < l[i].Fields.length
          · rw [d_lt (by omega)]; exact ⟨1, rfl, .inl rfl⟩
          · rw [d_nlt (by omega), cond_false]
            have := loop1_0 (L := fun fu2 j => m_w06_Over_l4 l (i : Int) (fun y3_1 => m_w06_Over_l1 l fu y3_1) fu2 j) (n := l[i].Fields.length) (P := fun j o => (∀ f ∈ l[i].Fields.take j, f.Name.length ≤ 40) → ∃ r, o = some r ∧ (r = 1 ∨ r = 0 ∧ ∀ t ∈ l.drop i, tyB t)) (by omega)
              (fun fu2 hj => by
                unfold m_w06_Over_l4
                rw [geti_lt hi, obind_some, d_nlt (by omega), cond_false, inc_ok (by omega)]
                obtain ⟨r, e, q⟩ := ih
                refine ⟨r, e, q.imp id fun ⟨q1, q2⟩ => ⟨q1, ?_⟩⟩
                rw [drop_cons hi]
                intro e he
                rcases List.mem_cons.1 he with rfl | he
                · exact ⟨by omega, by omega, by rw [List.take_of_length_le (Nat.le_refl _)] at hj; exact hj⟩
                · exact q2 e he)
              (fun fu2 j hj ih2 hq => by
                unfold m_w06_Over_l4
                have hvm := hmi.M _ (List.getElem_mem hj)
                have hvl := maxLen_le hvm
                rw [geti_lt hi, obind_some, d_lt (by omega), cond_true, obind_some, geti_lt hj, obind_some]
                by_cases hs : 40 < l[i].Fields[j].Name.length
                · rw [d_lt (by omega)]; exact ⟨1, rfl, .inl rfl⟩
                · rw [d_nlt (by omega), cond_false, inc_ok (by omega)]
                  refine ih2 fun v hv => ?_
                  rw [take_snoc hj] at hv
                  rcases List.mem_append.1 hv with hv | hv
                  · exact hq v hv
                  · simp only [List.mem_singleton] at hv; subst hv; omega)
            exact this (by simp))
    obtain ⟨r, e, q⟩ := this
    exact ⟨r, e, q.imp id fun ⟨q1, q2⟩ => ⟨q1, ⟨by omega, by simpa using q2⟩⟩⟩
theorem own06_ok {l : List GType} (h : scB l) : m_w06_Own l = some l := by
  have hl := h.L
  have := map_loop (L := fun fu s i => m_w06_Own_l0 l fu s i) (l := l) (f := id) (e := id) (by omega) (fun fu s => by unfold m_w06_Own_l0; rw [d_nlt (by omega)]; rfl)
    (fun fu s i hi hs => by
      have hf := (h.T _ (List.getElem_mem hi)).F
      conv => lhs; unfold m_w06_Own_l0
      rw [d_lt (by omega), cond_true, geti_lt hi, obind_some]
      have := map_loopK (L := fun fu2 s2 j => m_w06_Own_l3 l l[i] s (i : Int) (fun y3_0 y4_0 => m_w06_Own_l0 l fu y3_0 y4_0) fu2 s2 j) (l := l[i].Fields) (f := id) (K := fun s2 => m_w06_Own_l0 l fu (s ++ [GType.mk l[i].Name s2]) ((i + 1 : Nat) : Int)) (by omega)
        (fun fu2 s2 => by
          unfold m_w06_Own_l3
          rw [geti_lt hi, obind_some, d_nlt (by omega), cond_false, app_ok (by simp; omega), obind_some, inc_ok (by omega)])
        (fun fu2 s2 j hj hs2 => by
          conv => lhs; unfold m_w06_Own_l3
          rw [geti_lt hi, obind_some, d_lt (by omega), cond_true, obind_some, geti_lt hj, obind_some, app_ok (by simp; omega), obind_some, inc_ok (by omega)]; rfl)
      rw [List.map_id] at this
      exact this)
  rw [List.map_id] at this; exact this
end Go.Proofs.YtaaooafcijdbmaaDoor.K
namespace Go.Proofs.YtaaooafcijdbmaaDoor.K
open Go.RowKit Go.Lib
theorem vals_ok {l : List GValue} (hl : l.length ≤ 400000000) : m_w06_Vals l = some l := by
  have := map_loop (L := fun fu s i => m_w06_Vals_l0 l fu s i) (l := l) (f := id) (e := id) hl (fun fu s => by unfold m_w06_Vals_l0; rw [d_nlt (by omega)]; rfl)
    (fun fu s i h hs => by
      conv => lhs; unfold m_w06_Vals_l0
      rw [d_lt (by omega), cond_true, geti_lt h, obind_some, app_ok (by simp; omega), obind_some, inc_ok (by omega)]; rfl)
  rw [List.map_id] at this; exact this
theorem own_ok {e : GEvent} (h : e.Vals.length ≤ 400000000) : m_w07_Own e = some e := by unfold m_w07_Own; rw [vals_ok h]; rfl
/-- Short enough. -/
def evB (e : GEvent) : Prop := e.Type_.length ≤ 40 ∧ e.Vals.length ≤ 12 ∧ ∀ v ∈ e.Vals, v.Text.length ≤ 100
theorem small_ok {v : GValue} (h : v.Text.length ≤ maxLen) : m_w04_Small v = some (max 0 ((v.Text.length : Int) - 100)) := by
  unfold m_w04_Small
  have := maxLen_le h
  rw [w64 (by omega) (by omega)]
/-- Lengths that memory allows. -/
def evM (e : GEvent) : Prop := e.Type_.length ≤ maxLen ∧ e.Vals.length ≤ maxLen ∧ ∀ v ∈ e.Vals, v.Text.length ≤ maxLen
theorem over_ok {l : List GEvent} {k : Int} (hk : k ≤ 1000000) (hm : ∀ e ∈ l, evM e) : ∃ r, m_w07_Over l k = some r ∧ (r = 1 ∨ r = 0 ∧ (l.length : Int) ≤ k ∧ ∀ e ∈ l, evB e) := by
  unfold m_w07_Over
  by_cases h : k < (l.length : Int)
  · rw [d_lt h]; exact ⟨1, rfl, .inl rfl⟩
  · rw [d_nlt h, cond_false]
    have := loop1_0 (L := fun fu i => m_w07_Over_l1 l fu i) (n := l.length) (P := fun i o => ∃ r, o = some r ∧ (r = 1 ∨ r = 0 ∧ ∀ e ∈ l.drop i, evB e)) (by omega)
      (fun fu => by unfold m_w07_Over_l1; rw [d_nlt (by omega)]; exact ⟨0, rfl, .inr ⟨rfl, by simp⟩⟩)
      (fun fu i hi ih => by
        have hmi := hm l[i] (List.getElem_mem hi)
        have h1 := maxLen_le hmi.1
        have h2 := maxLen_le hmi.2.1
        unfold m_w07_Over_l1
        rw [d_lt (by omega), cond_true, geti_lt hi, obind_some]
        by_cases ht : 40 < l[i].Type_.length
        · rw [d_lt (by omega)]; exact ⟨1, rfl, .inl rfl⟩
        · rw [d_nlt (by omega), cond_false, obind_some]
          by_cases hv : 12 < l[i].Vals.length
          · rw [d_lt (by omega)]; exact ⟨1, rfl, .inl rfl⟩
          · rw [d_nlt (by omega), cond_false]
            have := loop1_0 (L := fun fu2 j => m_w07_Over_l4 l (i : Int) (fun y5_1 => m_w07_Over_l1 l fu y5_1) fu2 j) (n := l[i].Vals.length) (P := fun j o => (∀ v ∈ l[i].Vals.take j, v.Text.length ≤ 100) → ∃ r, o = some r ∧ (r = 1 ∨ r = 0 ∧ ∀ e ∈ l.drop i, evB e)) (by omega)
              (fun fu2 hj => by
                unfold m_w07_Over_l4
                rw [geti_lt hi, obind_some, d_nlt (by omega), cond_false, inc_ok (by omega)]
                obtain ⟨r, e, q⟩ := ih
                refine ⟨r, e, q.imp id fun ⟨q1, q2⟩ => ⟨q1, ?_⟩⟩
                rw [drop_cons hi]
                intro e he
                rcases List.mem_cons.1 he with rfl | he
                · exact ⟨by omega, by omega, by rw [List.take_of_length_le (Nat.le_refl _)] at hj; exact hj⟩
                · exact q2 e he)
              (fun fu2 j hj ih2 hq => by
                unfold m_w07_Over_l4
                have hvm := hmi.2.2 _ (List.getElem_mem hj)
                have hvl := maxLen_le hvm
                rw [geti_lt hi, obind_some, d_lt (by omega), cond_true, obind_some, geti_lt hj, obind_some, small_ok hvm, obind_some]
                by_cases hs : 100 < l[i].Vals[j].Text.length
                · rw [d_lt (by omega)]; exact ⟨1, rfl, .inl rfl⟩
                · rw [d_nlt (by omega), cond_false, inc_ok (by omega)]
                  refine ih2 fun v hv => ?_
                  rw [take_snoc hj] at hv
                  rcases List.mem_append.1 hv with hv | hv
                  · exact hq v hv
                  · simp only [List.mem_singleton] at hv; subst hv; omega)
            exact this (by simp))
    obtain ⟨r, e, q⟩ := this
    exact ⟨r, e, q.imp id fun ⟨q1, q2⟩ => ⟨q1, by omega, by simpa using q2⟩⟩
end Go.Proofs.YtaaooafcijdbmaaDoor.K
namespace Go.Proofs.YtaaooafcijdbmaaDoor.K
open Go.RowKit Go.Lib
/-- An event's parts, as a law lays them. -/
structure evO (e : GEvent) : Prop where
  T : -9223372036854775808 ≤ e.Time ∧ e.Time ≤ 9223372036854775807
  S : -9223372036854775808 ≤ e.Source ∧ e.Source ≤ 9223372036854775807
  Q : -9223372036854775808 ≤ e.Seq ∧ e.Seq ≤ 9223372036854775807
  L : e.Vals.length ≤ 12
  V : ∀ v ∈ e.Vals, okB v
structure mayB (e : GEvent) : Prop where
  T : 0 ≤ e.Time ∧ e.Time ≤ 1099511627776
  S : 0 ≤ e.Source ∧ e.Source < 16
  Q : 0 ≤ e.Seq ∧ e.Seq ≤ 1099511627776
instance (e : GEvent) : Decidable (mayB e) := decidable_of_iff ((0 ≤ e.Time ∧ e.Time ≤ 1099511627776) ∧ (0 ≤ e.Source ∧ e.Source < 16) ∧ (0 ≤ e.Seq ∧ e.Seq ≤ 1099511627776)) ⟨fun ⟨a, b, c⟩ => ⟨a, b, c⟩, fun ⟨a, b, c⟩ => ⟨a, b, c⟩⟩
theorem may_ok (e : GEvent) : m_event_ID_may (GID.mk e.Time e.Source e.Seq) = some (decide (mayB e)) := by
  unfold m_event_ID_may
  simp only
  by_cases h1 : 0 ≤ e.Time
  · rw [decide_eq_true h1, cond_true]
    by_cases h2 : e.Time ≤ 1099511627776
    · rw [decide_eq_true h2, cond_true]
      by_cases h3 : 0 ≤ e.Source
      · rw [decide_eq_true h3, cond_true]
        by_cases h4 : e.Source < 16
        · rw [decide_eq_true h4, cond_true]
          by_cases h5 : 0 ≤ e.Seq
          · rw [decide_eq_true h5, cond_true]
            congr 1
            exact decide_eq_decide.2 ⟨fun h => ⟨⟨h1, h2⟩, ⟨h3, h4⟩, ⟨h5, h⟩⟩, fun h => h.Q.2⟩
          · rw [decide_eq_false h5, decide_eq_false (fun h : mayB e => h5 h.Q.1)]; rfl
        · rw [decide_eq_false h4, decide_eq_false (fun h : mayB e => h4 h.S.2)]; rfl
      · rw [decide_eq_false h3, decide_eq_false (fun h : mayB e => h3 h.S.1)]; rfl
    · rw [decide_eq_false h2, decide_eq_false (fun h : mayB e => h2 h.T.2)]; rfl
  · rw [decide_eq_false h1, decide_eq_false (fun h : mayB e => h1 h.T.1)]; rfl
def evC (p : List GType) (e : GEvent) : Int :=
  if schC p ≠ 0 then 2 else if ¬ mayB e then 8 else if (fnd p e.Type_).2 = false then 6 else fitC (fnd p e.Type_).1.Fields e.Vals
theorem fnd_F {k : Nat} (n : List UInt8) : ∀ {l : List GType}, (∀ t ∈ l, t.Fields.length ≤ k) → (fnd l n).1.Fields.length ≤ k
  | [], _ => by simp [fnd]
  | t :: r, h => by
    rw [fnd]
    split
    · exact h t (by simp)
    · exact fnd_F n fun t ht => h t (by simp [ht])
theorem scB.F {p : List GType} (h : scB p) : ∀ t ∈ p, t.Fields.length ≤ 1000 := fun t ht => by have := (h.T t ht).F; omega
theorem scB.L' {p : List GType} (h : scB p) : p.length ≤ 1000 := by have := h.L; omega
theorem echeck_ok {p : List GType} {e : GEvent} (hp : scB p) (he : evO e) : m_event_Check p e = some (evC p e) := by
  unfold m_event_Check m_event_Event_ID evC
  have hL := he.L
  rw [scheck_ok hp.L' hp.F, obind_some, obind_some, may_ok, obind_some, find_ok _ hp.L' hp.F, obind_some, fits_ok (by omega) (fnd_F _ hp.F) (fun v hv => (he.V v hv).B), obind_some]
  by_cases h1 : schC p ≠ 0
  · rw [decide_eq_true h1, if_pos h1]; rfl
  · rw [decide_eq_false h1, if_neg h1, cond_false]
    by_cases h2 : mayB e
    · rw [decide_eq_true h2, if_neg (by simp [h2])]
      cases (fnd p e.Type_).2 <;> rfl
    · rw [decide_eq_false h2, if_pos h2]; rfl
theorem recheck_ok {p : List GType} {e : GEvent} (hp : scB p) (he : evO e) : m_r07_Check p e = some (evC p e) := by
  unfold m_r07_Check m_r07_Check_j2 evC
  have hL := he.L
  rw [rscheck_ok hp.L' hp.F, obind_some, rfind_ok _ hp.L', obind_some, rfits_ok (by omega) (fnd_F _ hp.F) (fun v hv => (he.V v hv).B), obind_some]
  by_cases h1 : schC p ≠ 0
  · rw [decide_eq_true h1, if_pos h1]; rfl
  · rw [decide_eq_false h1, if_neg h1, cond_false]
    by_cases h2 : mayB e
    · have a := h2.T; have b := h2.S; have c := h2.Q
      rw [if_neg (by simp [h2]), decide_eq_false (by omega), cond_false, decide_eq_false (by omega), cond_false, decide_eq_false (by omega), cond_false, decide_eq_false (by omega), cond_false, decide_eq_false (by omega), cond_false, decide_eq_false (by omega), cond_false]
      cases (fnd p e.Type_).2 <;> rfl
    · rw [if_pos h2]
      by_cases c1 : e.Time < 0
      · rw [decide_eq_true c1]; rfl
      rw [decide_eq_false c1, cond_false]
      by_cases c2 : (1099511627776 : Int) < e.Time
      · rw [decide_eq_true c2]; rfl
      rw [decide_eq_false c2, cond_false]
      by_cases c3 : e.Source < 0
      · rw [decide_eq_true c3]; rfl
      rw [decide_eq_false c3, cond_false]
      by_cases c4 : 16 ≤ e.Source
      · rw [decide_eq_true c4]; rfl
      rw [decide_eq_false c4, cond_false]
      by_cases c5 : e.Seq < 0
      · rw [decide_eq_true c5]; rfl
      rw [decide_eq_false c5, cond_false]
      by_cases c6 : (1099511627776 : Int) < e.Seq
      · rw [decide_eq_true c6]; rfl
      exact absurd ⟨⟨by omega, by omega⟩, ⟨by omega, by omega⟩, ⟨by omega, by omega⟩⟩ h2
/-! ### the place of a type -/
def plc : List GType → List UInt8 → Nat → Int
  | [], _, _ => -1
  | t :: r, n, i => if t.Name = n then (i : Int) else plc r n (i + 1)
theorem plc_ok {p : List GType} (e : GEvent) (h : p.length ≤ 1000) : m_slices_IndexFunc_Type__event_Put_1 p e = some (plc p e.Type_ 0) := by
  unfold m_slices_IndexFunc_Type__event_Put_1
  have := loop1_0 (L := fun fu i => m_slices_IndexFunc_Type__event_Put_1_l1 p e fu i) (n := p.length) (P := fun i o => o = some (plc (p.drop i) e.Type_ i)) (by omega)
    (fun fu => by unfold m_slices_IndexFunc_Type__event_Put_1_l1; rw [d_nlt (by omega), List.drop_of_length_le (Nat.le_refl _)]; rfl)
    (fun fu i hi ih => by
      unfold m_slices_IndexFunc_Type__event_Put_1_l1 m_event_Put_1
      rw [d_lt (by omega), cond_true, geti_lt hi, obind_some, inc_ok (by omega), ih, drop_cons hi, plc, obind_some]
      by_cases hn : p[i].Name = e.Type_
      · rw [decide_eq_true hn, if_pos hn]; rfl
      · rw [decide_eq_false hn, if_neg hn]; rfl)
  rw [List.drop_zero] at this; exact this
theorem rplc_ok {p : List GType} (n : List UInt8) (h : p.length ≤ 1000) : m_r07_place p n = some (plc p n 0) := by
  unfold m_r07_place
  have := loop1_0 (L := fun fu i => m_r07_place_l0 p n fu i) (n := p.length) (P := fun i o => o = some (plc (p.drop i) n i)) (by omega)
    (fun fu => by unfold m_r07_place_l0; rw [d_nlt (by omega), List.drop_of_length_le (Nat.le_refl _)]; rfl)
    (fun fu i hi ih => by
      unfold m_r07_place_l0
      rw [d_lt (by omega), cond_true, geti_lt hi, obind_some, inc_ok (by omega), ih, drop_cons hi, plc]
      by_cases hn : p[i].Name = n
      · rw [decide_eq_true hn, if_pos hn]; rfl
      · rw [decide_eq_false hn, if_neg hn]; rfl)
  rw [List.drop_zero] at this; exact this
theorem plc_in (n : List UInt8) : ∀ (p : List GType) (i : Nat), hasT p n = true → ∃ k : Nat, k < p.length ∧ plc p n i = ((i + k : Nat) : Int) ∧ ∃ t, p[k]? = some t ∧ t.Name = n ∧ (fnd p n).1 = t
  | [], _, h => by simp [hasT] at h
  | t :: r, i, h => by
    rw [plc, fnd]
    by_cases hn : t.Name = n
    · rw [if_pos hn, if_pos hn]
      exact ⟨0, by simp, rfl, t, rfl, hn, rfl⟩
    · rw [if_neg hn, if_neg hn]
      obtain ⟨k, h1, h2, t', h3, h4, h5⟩ := plc_in n r (i + 1) (by simpa [hasT, hn] using h)
      exact ⟨k + 1, by simp; omega, by rw [h2]; congr 1; omega, t', by simpa using h3, h4, h5⟩
/-! ### bytes -/
def valsB (l : List GValue) : List UInt8 := l.flatMap fun v => v.Kind :: bytesV v
def headB (p : List GType) (e : GEvent) : List UInt8 := zb e.Time.toNat ++ zb e.Source.toNat ++ zb e.Seq.toNat ++ zb (plc p e.Type_ 0).toNat
def evB' (p : List GType) (e : GEvent) : List UInt8 := headB p e ++ valsB e.Vals
theorem fitL_zero : ∀ {fs : List GField} {vs : List GValue}, vs.length ≤ fs.length → fitL fs vs = 0 → ∀ v ∈ vs, chkV v = 0
  | _, [], _, _ => by simp
  | [], v :: vs, h, _ => by simp at h
  | f :: fs, v :: vs, h, hf => by
    rw [fitL] at hf
    by_cases h0 : chkV v = 0
    · rw [if_neg (by simp [h0])] at hf
      split at hf
      · cases hf
      · intro x hx
        rcases List.mem_cons.1 hx with rfl | hx
        · exact h0
        · exact fitL_zero (by simpa using h) hf x hx
    · rw [if_pos h0] at hf; exact absurd hf h0
structure evGood (p : List GType) (e : GEvent) : Prop where
  C : schC p = 0
  M : mayB e
  H : hasT p e.Type_ = true
  F : e.Vals.length = (fnd p e.Type_).1.Fields.length
  I : fitL (fnd p e.Type_).1.Fields e.Vals = 0
theorem evC_zero {p : List GType} {e : GEvent} (h : evC p e = 0) : evGood p e := by
  unfold evC at h
  split at h
  · cases h
  · rename_i h1
    split at h
    · cases h
    · rename_i h2
      split at h
      · cases h
      · rename_i h3
        unfold fitC at h
        split at h
        · cases h
        · rename_i h4
          exact ⟨by omega, by simpa using h2, by rw [← fnd_2]; simpa using h3, by omega, h⟩
theorem evGood.zero {p : List GType} {e : GEvent} (h : evGood p e) : evC p e = 0 := by
  unfold evC fitC
  rw [if_neg (by simp [h.C]), if_neg (by simp [h.M]), if_neg (by rw [fnd_2, h.H]; simp), if_neg (by simp [h.F]), h.I]
theorem evGood.V {p : List GType} {e : GEvent} (h : evGood p e) : ∀ v ∈ e.Vals, chkV v = 0 := fitL_zero (by have := h.F; omega) h.I
theorem bytesV_le {v : GValue} (h : okB v) : (bytesV v).length ≤ 1100 := by
  have := h.T
  have h1 := zn_le10 (zfold v.N) (zfold_lt _ h.N.1 h.N.2)
  have h2 := zn_le10 v.Text.length (by omega)
  unfold bytesV
  split
  · rw [zb_length]; omega
  · split
    · simp
    · split
      · rw [beB_len]; omega
      · rw [List.length_append, zb_length]; omega
theorem valsB_le : ∀ {l : List GValue}, (∀ v ∈ l, okB v) → (valsB l).length ≤ 1101 * l.length
  | [], _ => by simp [valsB]
  | v :: l, h => by
    have h1 := bytesV_le (h v (by simp))
    have h2 := valsB_le (l := l) fun v hv => h v (by simp [hv])
    unfold valsB at h2 ⊢
    rw [List.flatMap_cons, List.length_append, List.length_cons, List.length_cons]
    omega
theorem valsB_snoc {l : List GValue} {i : Nat} (hi : i < l.length) : valsB (l.take (i + 1)) = valsB (l.take i) ++ l[i].Kind :: bytesV l[i] := by
  rw [take_snoc hi]; unfold valsB; rw [List.flatMap_append]; simp only [List.flatMap_cons, List.flatMap_nil, List.append_nil]
theorem valsB_drop {l : List GValue} {i : Nat} (hi : i < l.length) : valsB (l.drop i) = (l[i].Kind :: bytesV l[i]) ++ valsB (l.drop (i + 1)) := by
  rw [drop_cons hi]; unfold valsB; rw [List.flatMap_cons]
theorem pvals_l {e : GEvent} {b : List UInt8} (hb : b.length ≤ 900000) (he : evO e) (hc : ∀ v ∈ e.Vals, chkV v = 0) : m_event_Put_l6 e 1152921504606846976 b 0 = some (b ++ valsB e.Vals, 0) := by
  have hL := he.L
  have := loopG_0 (L := fun fu s i => m_event_Put_l6 e fu s i) (n := e.Vals.length) (P := fun i s o => s = b ++ valsB (e.Vals.take i) → o = some (s ++ valsB (e.Vals.drop i), 0)) (by omega)
    (fun fu s hs => by unfold m_event_Put_l6; rw [d_nlt (by omega), List.drop_of_length_le (Nat.le_refl _)]; simp [valsB])
    (fun fu s i hi ih hs => by
      have hm := List.getElem_mem hi
      have hsl : s.length ≤ 1000000 := by
        have := valsB_le (l := e.Vals.take i) fun v hv => he.V v (List.mem_of_mem_take hv)
        rw [hs, List.length_append]; rw [List.length_take] at this; omega
      unfold m_event_Put_l6
      rw [d_lt (by omega), cond_true, geti_lt hi, obind_some, vput_ok hsl (he.V _ hm), obind_some]
      unfold putV
      rw [if_neg (by simp [hc _ hm])]
      simp only
      rw [decide_eq_false (by simp), cond_false, inc_ok (by omega), ih _ (by rw [hs, valsB_snoc hi, List.append_assoc]), valsB_drop hi, List.append_assoc])
    b (by simp [valsB])
  rw [List.drop_zero] at this; exact this
theorem rpvals_l {e : GEvent} {b : List UInt8} (hb : b.length ≤ 900000) (he : evO e) (hc : ∀ v ∈ e.Vals, chkV v = 0) : m_r07_Put_l5 e 1152921504606846976 b 0 = some (b ++ valsB e.Vals, 0) := by
  have hL := he.L
  have := loopG_0 (L := fun fu s i => m_r07_Put_l5 e fu s i) (n := e.Vals.length) (P := fun i s o => s = b ++ valsB (e.Vals.take i) → o = some (s ++ valsB (e.Vals.drop i), 0)) (by omega)
    (fun fu s hs => by unfold m_r07_Put_l5; rw [d_nlt (by omega), List.drop_of_length_le (Nat.le_refl _)]; simp [valsB])
    (fun fu s i hi ih hs => by
      have hm := List.getElem_mem hi
      have hsl : s.length ≤ 1000000 := by
        have := valsB_le (l := e.Vals.take i) fun v hv => he.V v (List.mem_of_mem_take hv)
        rw [hs, List.length_append]; rw [List.length_take] at this; omega
      unfold m_r07_Put_l5
      rw [d_lt (by omega), cond_true, geti_lt hi, obind_some, rvput_ok hsl (he.V _ hm), obind_some]
      unfold putV
      rw [if_neg (by simp [hc _ hm])]
      simp only
      rw [inc_ok (by omega), ih _ (by rw [hs, valsB_snoc hi, List.append_assoc]), valsB_drop hi, List.append_assoc])
    b (by simp [valsB])
  rw [List.drop_zero] at this; exact this
def putE (b : List UInt8) (p : List GType) (e : GEvent) : List UInt8 × Int := if evC p e ≠ 0 then ([], evC p e) else (b ++ evB' p e, 0)
theorem uw {n : Int} (h : 0 ≤ n ∧ n ≤ 1099511627776) : IntKind.u64.wrap n = ((n.toNat : Nat) : Int) := by rw [wu64]; omega
theorem zb_le {u : Nat} (h : u ≤ 1099511627776) : (zb u).length ≤ 10 := by rw [zb_length]; exact zn_le10 u (by omega)
theorem eput_ok {p : List GType} {e : GEvent} {b : List UInt8} (hb : b.length ≤ 500000) (hp : scB p) (he : evO e) : m_event_Put b p e = some (putE b p e) := by
  unfold m_event_Put putE
  rw [echeck_ok hp he, obind_some]
  by_cases h : evC p e ≠ 0
  · rw [decide_eq_true h, if_pos h]; rfl
  · rw [decide_eq_false h, if_neg h, cond_false, plc_ok _ hp.L', obind_some]
    have g := evC_zero (by omega : evC p e = 0)
    obtain ⟨k, k1, k2, _⟩ := plc_in e.Type_ p 0 g.H
    have hL := hp.L
    have a1 := zb_le (u := e.Time.toNat) (by have := g.M.T; omega)
    have a2 := zb_le (u := e.Source.toNat) (by have := g.M.S; omega)
    have a3 := zb_le (u := e.Seq.toNat) (by have := g.M.Q; omega)
    have a4 := zb_le (u := (plc p e.Type_ 0).toNat) (by omega)
    have m1 := g.M.T; have m2 := g.M.S; have m3 := g.M.Q
    rw [show (1152921504606846976 : Nat) = 1152921504606846971 + 1 + 1 + 1 + 1 + 1 from rfl]
    have step : ∀ (fu i : Nat) (y x : Int) (s : List UInt8), i < 4 → ([e.Time, e.Source, e.Seq, plc p e.Type_ 0] : List Int)[i]? = some x → 0 ≤ x ∧ x ≤ 1099511627776 → s.length ≤ 800000 →
        m_event_Put_l2 e (plc p e.Type_ 0) (fu + 1) s (i : Int) = m_event_Put_l2 e (plc p e.Type_ 0) fu (s ++ zb x.toNat) ((i + 1 : Nat) : Int) := by
      intro fu i y x s hi hx hb hs
      conv => lhs; unfold m_event_Put_l2
      rw [d_lt (by omega), cond_true, geti_nat, hx, obind_some, uw hb, put_ok (by omega) (by omega), obind_some, inc_ok (by omega)]
    have q1 := step 1152921504606846975 0 0 e.Time b (by omega) rfl (by omega) (by omega)
    have q2 := step 1152921504606846974 1 0 e.Source (b ++ zb e.Time.toNat) (by omega) rfl (by omega) (by rw [List.length_append]; omega)
    have q3 := step 1152921504606846973 2 0 e.Seq (b ++ zb e.Time.toNat ++ zb e.Source.toNat) (by omega) rfl (by omega) (by simp only [List.length_append]; omega)
    have q4 := step 1152921504606846972 3 0 (plc p e.Type_ 0) (b ++ zb e.Time.toNat ++ zb e.Source.toNat ++ zb e.Seq.toNat) (by omega) rfl (by omega) (by simp only [List.length_append]; omega)
    have q := q1.trans (q2.trans (q3.trans q4))
    refine q.trans ?_
    conv => lhs; unfold m_event_Put_l2
    rw [d_nlt (by omega), cond_false, pvals_l (by simp only [List.length_append]; omega) he g.V]
    unfold evB' headB
    simp only [List.append_assoc]
theorem reput_ok {p : List GType} {e : GEvent} {b : List UInt8} (hb : b.length ≤ 500000) (hp : scB p) (he : evO e) : m_r07_Put b p e = some (putE b p e) := by
  unfold m_r07_Put putE
  rw [recheck_ok hp he, obind_some]
  by_cases h : evC p e ≠ 0
  · rw [decide_eq_true h, if_pos h]; rfl
  · rw [decide_eq_false h, if_neg h, cond_false]
    have g := evC_zero (by omega : evC p e = 0)
    obtain ⟨k, k1, k2, _⟩ := plc_in e.Type_ p 0 g.H
    have hL := hp.L
    have a1 := zb_le (u := e.Time.toNat) (by have := g.M.T; omega)
    have a2 := zb_le (u := e.Source.toNat) (by have := g.M.S; omega)
    have a3 := zb_le (u := e.Seq.toNat) (by have := g.M.Q; omega)
    have a4 := zb_le (u := (plc p e.Type_ 0).toNat) (by omega)
    have m1 := g.M.T; have m2 := g.M.S; have m3 := g.M.Q
    rw [uw (by omega), rput_ok (by omega) (by omega), obind_some, uw (n := e.Source) (by omega), rput_ok (by simp only [List.length_append]; omega) (by omega), obind_some, uw (n := e.Seq) (by omega), rput_ok (by simp only [List.length_append]; omega) (by omega), obind_some, rplc_ok _ hp.L', obind_some, uw (n := plc p e.Type_ 0) (by omega), rput_ok (by simp only [List.length_append]; omega) (by omega), obind_some, rpvals_l (by simp only [List.length_append]; omega) he g.V]
    unfold evB' headB
    simp only [List.append_assoc]
/-! ### a value by its name -/
end Go.Proofs.YtaaooafcijdbmaaDoor.K
namespace Go.Proofs.YtaaooafcijdbmaaDoor.K
open Go.RowKit Go.Lib
theorem wf_tyM {t : GType} (h : wf_GType t) : tyM t := ⟨h.Name, h.Fields.1, fun f hf => (h.Fields.2 f hf).Name⟩
theorem wf_evM {e : GEvent} (h : wf_GEvent e) : evM e := ⟨h.Type_, h.Vals.1, fun v hv => (h.Vals.2 v hv).Text⟩
theorem wf_evO {e : GEvent} (h : wf_GEvent e) (b : evB e) : evO e :=
  ⟨in_i64 h.Time, in_i64 h.Source, in_i64 h.Seq, b.2.1, fun v hv => ⟨in_i64 (h.Vals.2 v hv).N, in_u64 (h.Vals.2 v hv).Bits, by have := b.2.2 v hv; omega⟩⟩
end Go.Proofs.YtaaooafcijdbmaaDoor.K

namespace Go.Proofs.YtaaooafcijdbmaaDoor.K
open Go.RowKit Go.Lib
abbrev zeroE : GEvent := GEvent.mk 0 0 0 [] []
section
variable {l : List UInt8} (hl : l.length ≤ 1000000)
include hl
omit hl in
end
/-! ### the mirror -/
end Go.Proofs.YtaaooafcijdbmaaDoor.K

namespace Go.Proofs.YtaaooafcijdbmaaDoor.K
open Go.RowKit Go.Lib
/-! ### taken, so put -/
/-! ### put, so taken -/
theorem bytesV_c {v : GValue} (h : okB v) (c : chkV v = 0) : (bytesV v).length ≤ 40 := by
  have h1 := zn_le10 (zfold v.N) (zfold_lt _ h.N.1 h.N.2)
  have hT := h.T
  have h2 := zn_le10 v.Text.length (by omega)
  unfold bytesV
  split
  · rw [zb_length]; omega
  · split
    · simp
    · split
      · rw [beB_len]; omega
      · rename_i k1 k2 k3
        rcases chk_range v with q | q | q | q | q
        · exact absurd q k1
        · exact absurd q k2
        · exact absurd q k3
        · have := (chk4 q c).1
          rw [List.length_append, zb_length]; omega
        · rw [c] at q; cases q
theorem valsB_c : ∀ {l : List GValue}, (∀ v ∈ l, okB v ∧ chkV v = 0) → (valsB l).length ≤ 41 * l.length
  | [], _ => by simp [valsB]
  | v :: l, h => by
    have h1 := bytesV_c (h v (by simp)).1 (h v (by simp)).2
    have h2 := valsB_c (l := l) fun v hv => h v (by simp [hv])
    unfold valsB at h2 ⊢
    rw [List.flatMap_cons, List.length_append, List.length_cons, List.length_cons]
    omega
theorem evB_len {p : List GType} {e : GEvent} (hp : scB p) (g : evGood p e) (he : evO e) : (evB' p e).length ≤ 600 := by
  have h1 := valsB_c (l := e.Vals) fun v hv => ⟨he.V v hv, g.V v hv⟩
  have hL := he.L
  have m1 := g.M.T; have m2 := g.M.S; have m3 := g.M.Q
  obtain ⟨k, k1, k2, _⟩ := plc_in e.Type_ p 0 g.H
  have hpl := hp.L
  have a1 := zb_le (u := e.Time.toNat) (by omega)
  have a2 := zb_le (u := e.Source.toNat) (by omega)
  have a3 := zb_le (u := e.Seq.toNat) (by omega)
  have a4 := zb_le (u := (plc p e.Type_ 0).toNat) (by omega)
  unfold evB' headB
  simp only [List.length_append]
  omega
end Go.Proofs.YtaaooafcijdbmaaDoor.K

namespace Go.Proofs.YtaaooafcijdbmaaDoor.K
open Go.RowKit Go.Lib
theorem sc_esame {a b : GEvent} (ha : a.Vals.length ≤ 1000000) (hb : b.Vals.length ≤ 1000000) : m_event_Same a b = some (decide (a = b)) := by
  unfold m_event_Same m_event_Event_ID
  rw [obind_some, obind_some, obind_some]
  simp only
  by_cases h1 : a.Time = b.Time ∧ a.Source = b.Source ∧ a.Seq = b.Seq
  · rw [decide_eq_true h1.1, decide_eq_true h1.2.1, decide_eq_true h1.2.2]
    by_cases h4 : a.Type_ = b.Type_
    · rw [decide_eq_true h4]
      show Option.bind (m_slices_Equal_Value a.Vals b.Vals) (fun r => some r) = _
      unfold m_slices_Equal_Value
      by_cases h5 : a.Vals.length = b.Vals.length
      · rw [decide_eq_false (by simp [h5]), cond_false]
        have := eq_loop (L := fun fu i => m_slices_Equal_Value_l2 a.Vals b.Vals fu i) (a := a.Vals) (b := b.Vals) h5 (by omega)
          (fun fu => by unfold m_slices_Equal_Value_l2; rw [d_nlt (by omega)]; rfl)
          (fun fu i i1 i2 => by
            conv => lhs; unfold m_slices_Equal_Value_l2
            rw [d_lt (by omega), cond_true, geti_lt i1, obind_some, geti_lt i2, obind_some, same4, obind_some, inc_ok (by omega)]
            by_cases h : a.Vals[i] = b.Vals[i]
            · rw [decide_eq_true h, if_pos h]; rfl
            · rw [decide_eq_false h, if_neg h]; rfl)
        rw [show m_slices_Equal_Value_l2 a.Vals b.Vals 1152921504606846976 0 = some (decide (a.Vals = b.Vals)) from this, obind_some]
        congr 1
        exact decide_eq_decide.2 ⟨fun h => evEq h1.1 h1.2.1 h1.2.2 h4 h, fun h => by rw [h]⟩
      · rw [decide_eq_true (by omega), decide_eq_false (fun h : a = b => h5 (by rw [h]))]; rfl
    · rw [decide_eq_false h4, decide_eq_false (fun h : a = b => h4 (by rw [h]))]; rfl
  · rw [show (decide (a.Time = b.Time) && (decide (a.Source = b.Source) && (decide (a.Seq = b.Seq) && true))) = false by
      rw [Bool.eq_false_iff]; intro q; apply h1; simpa using q, decide_eq_false (fun h : a = b => h1 (by rw [h]; exact ⟨rfl, rfl, rfl⟩))]; rfl
abbrev kC (c : GCommand) : Nat := c.Kind.toNat
/-- A command's parts, as a law lays them. -/
structure cmO (c : GCommand) : Prop where
  T : c.Text.length ≤ 700
  A : -9223372036854775808 ≤ c.A ∧ c.A ≤ 9223372036854775807
  B : -9223372036854775808 ≤ c.B ∧ c.B ≤ 9223372036854775807
  E : evO c.E
theorem has_ok (c : GCommand) (h : kC c ≤ 7) : m_script_Command_has c 1 = some (decide (kC c = 1)) ∧ m_script_Command_has c 2 = some (decide (kC c = 3)) ∧ m_script_Command_has c 4 = some (decide (4 ≤ kC c)) ∧ m_script_Command_has c 8 = some (decide (kC c = 4)) := by
  unfold m_script_Command_has
  have e : c.Kind.toNat = kC c := rfl
  rw [e]
  generalize kC c = k at h
  have k7 : k = 0 ∨ k = 1 ∨ k = 2 ∨ k = 3 ∨ k = 4 ∨ k = 5 ∨ k = 6 ∨ k = 7 := by omega
  rcases k7 with rfl | rfl | rfl | rfl | rfl | rfl | rfl | rfl <;> decide +kernel
theorem kind_ok (c : GCommand) : m_script_Command_kind c = some (decide (1 ≤ kC c ∧ kC c ≤ 7)) := by
  unfold m_script_Command_kind
  have e : c.Kind.toNat = kC c := rfl
  rw [e]
  by_cases a : 1 ≤ kC c
  · rw [decide_eq_true (by omega), cond_true]
    congr 1
    exact decide_eq_decide.2 (by omega)
  · rw [decide_eq_false (by omega), cond_false, decide_eq_false (by omega)]
def morC (c : GCommand) : Bool := (!decide (kC c = 1) && decide (c.Text ≠ [])) || (!decide (kC c = 3) && !decide (c.E = zeroE)) || (!decide (4 ≤ kC c) && decide (c.A ≠ 0)) || (!decide (kC c = 4) && decide (c.B ≠ 0))
theorem more_ok {c : GCommand} (h : kC c ≤ 7) (hL : c.E.Vals.length ≤ 1000000) : m_script_Command_more c = some (morC c) := by
  obtain ⟨h1, h2, h4, h8⟩ := has_ok c h
  unfold m_script_Command_more morC
  rw [sc_esame hL (by simp), obind_some]
  simp only [h1, h2, h4, h8, obind_some]
  rw [show (GEvent.mk 0 0 0 ([] : List UInt8) ([] : List GValue)) = zeroE from rfl]
  cases decide (kC c = 1) <;> cases decide (kC c = 3) <;> cases decide (4 ≤ kC c) <;> cases decide (kC c = 4) <;> cases decide (c.Text ≠ []) <;> cases decide (c.E = zeroE) <;> cases decide (c.A ≠ 0) <;> cases decide (c.B ≠ 0) <;> rfl
/-- May a command be? -/
def chkC (p : List GType) (c : GCommand) : Int := if schC p ≠ 0 then 2 else if ¬ (1 ≤ kC c ∧ kC c ≤ 7) then 11 else if kC c = 1 ∧ 600 < c.Text.length then 5 else if kC c = 3 ∧ evC p c.E ≠ 0 then evC p c.E else if morC c = true then 2 else 0
theorem ccheck_ok {p : List GType} {c : GCommand} (hp : scB p) (hc : cmO c) : m_script_Check p c = some (chkC p c) := by
  unfold m_script_Check m_script_Check_j3 m_script_Check_j6 chkC
  have hL := hc.E.L
  rw [scheck_ok hp.L' hp.F, obind_some]
  by_cases s : schC p = 0
  · rw [decide_eq_false (by simp [s]), cond_false, if_neg (by simp [s]), kind_ok, obind_some]
    by_cases k : 1 ≤ kC c ∧ kC c ≤ 7
    · obtain ⟨h1, h2, h4, h8⟩ := has_ok c k.2
      rw [decide_eq_true k, Bool.not_true, cond_false, if_neg (by simp [k]), h1, obind_some, h2, obind_some, echeck_ok hp hc.E, more_ok k.2 (by omega)]
      simp only [obind_some]
      have fin : (cond (morC c) (some (2 : Int)) (some 0)) = some (if morC c = true then 2 else 0) := by cases morC c <;> rfl
      rw [fin]
      by_cases a : kC c = 1
      · rw [decide_eq_true a, cond_true, decide_eq_false (p := kC c = 3) (by omega), cond_false]
        by_cases b : 600 < c.Text.length
        · rw [d_lt (by omega), if_pos (show kC c = 1 ∧ 600 < c.Text.length from ⟨a, b⟩)]; rfl
        · rw [d_nlt (by omega), cond_false, if_neg (show ¬ (kC c = 1 ∧ 600 < c.Text.length) from fun h => b h.2), if_neg (show ¬ (kC c = 3 ∧ evC p c.E ≠ 0) from fun h => by have := h.1; omega)]
      · rw [decide_eq_false a, cond_false, if_neg (show ¬ (kC c = 1 ∧ 600 < c.Text.length) from fun h => a h.1)]
        by_cases b : kC c = 3
        · rw [decide_eq_true b, cond_true]
          by_cases d : evC p c.E = 0
          · rw [decide_eq_false (by simp [d]), cond_false, if_neg (show ¬ (kC c = 3 ∧ evC p c.E ≠ 0) from fun h => h.2 d)]
          · rw [decide_eq_true d, cond_true, if_pos (show kC c = 3 ∧ evC p c.E ≠ 0 from ⟨b, d⟩)]
        · rw [decide_eq_false b, cond_false, if_neg (show ¬ (kC c = 3 ∧ evC p c.E ≠ 0) from fun h => b h.1)]
    · rw [decide_eq_false k, if_pos k]; rfl
  · rw [decide_eq_true s, if_pos s]; rfl
theorem rccheck_ok {p : List GType} {c : GCommand} (hp : scB p) (hc : cmO c) : m_r37_Check p c = some (chkC p c) := by
  unfold m_r37_Check m_r37_Check_j3 m_r37_Check_j5 m_r37_Check_j7 m_r37_Check_j8 m_r37_Check_j9 chkC
  have hL := hc.E.L
  have e : c.Kind.toNat = kC c := rfl
  rw [rscheck_ok hp.L' hp.F, obind_some, recheck_ok hp hc.E, rsame_ok (a := c.E) (b := GEvent.mk 0 0 0 [] []) (by omega) (by simp)]
  simp only [obind_some, e]
  have d1 : decide (((kC c : Nat) : Int) ≠ 1) = !decide (kC c = 1) := by rw [← decide_not]; exact decide_eq_decide.2 (by omega)
  have d3 : decide (((kC c : Nat) : Int) ≠ 3) = !decide (kC c = 3) := by rw [← decide_not]; exact decide_eq_decide.2 (by omega)
  have d4 : decide (((kC c : Nat) : Int) ≠ 4) = !decide (kC c = 4) := by rw [← decide_not]; exact decide_eq_decide.2 (by omega)
  have d5 : decide (((kC c : Nat) : Int) < 4) = !decide (4 ≤ kC c) := by rw [← decide_not]; exact decide_eq_decide.2 (by omega)
  have e1 : decide (((kC c : Nat) : Int) = 1) = decide (kC c = 1) := decide_eq_decide.2 (by omega)
  have e3 : decide (((kC c : Nat) : Int) = 3) = decide (kC c = 3) := decide_eq_decide.2 (by omega)
  rw [d1, d3, d4, d5, e1, e3, show (GEvent.mk 0 0 0 ([] : List UInt8) ([] : List GValue)) = zeroE from rfl]
  by_cases s : schC p = 0
  · rw [decide_eq_false (by simp [s]), cond_false, if_neg (by simp [s])]
    by_cases k : 1 ≤ kC c ∧ kC c ≤ 7
    · rw [d_nlt (by omega), cond_false, d_nlt (by omega), cond_false, if_neg (by simp [k])]
      have fin : (cond (!decide (kC c = 1)) (cond (decide (c.Text ≠ ([] : List UInt8))) (some (2 : Int)) (cond (!decide (kC c = 3)) (cond (!decide (c.E = zeroE)) (some 2) (cond (!decide (4 ≤ kC c)) (cond (decide (c.A ≠ 0)) (some 2) (cond (!decide (kC c = 4)) (cond (decide (c.B ≠ 0)) (some 2) (some 0)) (some 0))) (cond (!decide (kC c = 4)) (cond (decide (c.B ≠ 0)) (some 2) (some 0)) (some 0)))) (cond (!decide (4 ≤ kC c)) (cond (decide (c.A ≠ 0)) (some 2) (cond (!decide (kC c = 4)) (cond (decide (c.B ≠ 0)) (some 2) (some 0)) (some 0))) (cond (!decide (kC c = 4)) (cond (decide (c.B ≠ 0)) (some 2) (some 0)) (some 0))))) (cond (!decide (kC c = 3)) (cond (!decide (c.E = zeroE)) (some 2) (cond (!decide (4 ≤ kC c)) (cond (decide (c.A ≠ 0)) (some 2) (cond (!decide (kC c = 4)) (cond (decide (c.B ≠ 0)) (some 2) (some 0)) (some 0))) (cond (!decide (kC c = 4)) (cond (decide (c.B ≠ 0)) (some 2) (some 0)) (some 0)))) (cond (!decide (4 ≤ kC c)) (cond (decide (c.A ≠ 0)) (some 2) (cond (!decide (kC c = 4)) (cond (decide (c.B ≠ 0)) (some 2) (some 0)) (some 0))) (cond (!decide (kC c = 4)) (cond (decide (c.B ≠ 0)) (some 2) (some 0)) (some 0))))) = some (if morC c = true then 2 else 0) := by
        unfold morC
        cases decide (kC c = 1) <;> cases decide (kC c = 3) <;> cases decide (4 ≤ kC c) <;> cases decide (kC c = 4) <;> cases decide (c.Text ≠ []) <;> cases decide (c.E = zeroE) <;> cases decide (c.A ≠ 0) <;> cases decide (c.B ≠ 0) <;> rfl
      rw [fin]
      by_cases a : kC c = 1
      · rw [decide_eq_true a, cond_true, decide_eq_false (p := kC c = 3) (by omega), cond_false]
        by_cases b : 600 < c.Text.length
        · rw [d_lt (by omega), if_pos (show kC c = 1 ∧ 600 < c.Text.length from ⟨a, b⟩)]; rfl
        · rw [d_nlt (by omega), cond_false, if_neg (show ¬ (kC c = 1 ∧ 600 < c.Text.length) from fun h => b h.2), if_neg (show ¬ (kC c = 3 ∧ evC p c.E ≠ 0) from fun h => by have := h.1; omega)]
      · rw [decide_eq_false a, cond_false, if_neg (show ¬ (kC c = 1 ∧ 600 < c.Text.length) from fun h => a h.1)]
        by_cases b : kC c = 3
        · rw [decide_eq_true b, cond_true]
          by_cases d : evC p c.E = 0
          · rw [decide_eq_false (by simp [d]), cond_false, if_neg (show ¬ (kC c = 3 ∧ evC p c.E ≠ 0) from fun h => h.2 d)]
          · rw [decide_eq_true d, cond_true, if_pos (show kC c = 3 ∧ evC p c.E ≠ 0 from ⟨b, d⟩)]
        · rw [decide_eq_false b, cond_false, if_neg (show ¬ (kC c = 3 ∧ evC p c.E ≠ 0) from fun h => b h.1)]
    · rw [if_pos k]
      by_cases a : kC c < 1
      · rw [d_lt (by omega)]; rfl
      · rw [d_nlt (by omega), cond_false, d_lt (by omega)]; rfl
  · rw [decide_eq_true s, if_pos s]; rfl
theorem csame_ok {a b : GCommand} (ha : a.E.Vals.length ≤ 1000000) (hb : b.E.Vals.length ≤ 1000000) : m_script_Same a b = some (decide (a = b)) ∧ m_r37_Same a b = some (decide (a = b)) := by
  unfold m_script_Same m_r37_Same
  rw [sc_esame ha hb, rsame_ok ha hb]
  have e : decide (a = b) = (decide (((a.Kind.toNat : Nat) : Int) = ((b.Kind.toNat : Nat) : Int)) && (decide (a.Text = b.Text) && (decide (a.A = b.A) && (decide (a.B = b.B) && decide (a.E = b.E))))) := by
    obtain ⟨k, t, x, y, z⟩ := a
    obtain ⟨k', t', x', y', z'⟩ := b
    have u8 : ((k.toNat : Nat) : Int) = ((k'.toNat : Nat) : Int) ↔ k = k' := ⟨fun h => UInt8.toNat_inj.1 (by omega), fun h => by rw [h]⟩
    simp only [u8, GCommand.mk.injEq, Bool.decide_and]
  rw [e]
  cases decide (((a.Kind.toNat : Nat) : Int) = ((b.Kind.toNat : Nat) : Int)) <;> cases decide (a.Text = b.Text) <;> cases decide (a.A = b.A) <;> cases decide (a.B = b.B) <;> cases decide (a.E = b.E) <;> exact ⟨rfl, rfl⟩
/-! ### a command's bytes -/
def cmS (p : List GType) (c : GCommand) : List UInt8 := c.Kind :: (if kC c = 1 then beb 2 c.Text.length ++ c.Text else if kC c = 3 then evB' p c.E else (if 4 ≤ kC c then zb (zfold c.A) else []) ++ (if kC c = 4 then zb (zfold c.B) else []))
def putC' (b : List UInt8) (p : List GType) (c : GCommand) : List UInt8 × Int := if chkC p c ≠ 0 then ([], chkC p c) else (b ++ cmS p c, 0)
theorem chk_parts {p : List GType} {c : GCommand} (h : chkC p c = 0) : schC p = 0 ∧ (1 ≤ kC c ∧ kC c ≤ 7) ∧ (kC c = 1 → c.Text.length ≤ 600) ∧ (kC c = 3 → evC p c.E = 0) ∧ morC c = false := by
  unfold chkC at h
  by_cases s : schC p = 0
  · rw [if_neg (by simp [s])] at h
    by_cases k : 1 ≤ kC c ∧ kC c ≤ 7
    · rw [if_neg (by simp [k])] at h
      by_cases a : kC c = 1 ∧ 600 < c.Text.length
      · rw [if_pos a] at h; omega
      rw [if_neg a] at h
      by_cases b : kC c = 3 ∧ evC p c.E ≠ 0
      · rw [if_pos b] at h; exact absurd h b.2
      rw [if_neg b] at h
      refine ⟨s, k, fun q => by omega, fun q => Classical.byContradiction fun r => b ⟨q, r⟩, ?_⟩
      cases hm : morC c with
      | false => rfl
      | true => rw [hm] at h; simp at h
    · rw [if_pos k] at h; omega
  · rw [if_pos s] at h; omega
theorem rnum2_ok {b : List UInt8} {n : Nat} (hb : b.length ≤ 900000) (hn : n < 65536) : m_r01_Num b 2 (n : Int) = some (b ++ beb 2 n, 0) := by
  have e1 : Int.tmod (n : Int) 256 = ((n % 256 : Nat) : Int) := (Int.ofNat_tmod _ _).symm
  have e2 : Int.tdiv (n : Int) 256 = ((n / 256 : Nat) : Int) := (Int.ofNat_tdiv _ _).symm
  have e3 : Int.tmod ((n / 256 : Nat) : Int) 256 = ((n / 256 % 256 : Nat) : Int) := (Int.ofNat_tmod _ _).symm
  have e4 : Int.tdiv ((n / 256 : Nat) : Int) 256 = ((n / 256 / 256 : Nat) : Int) := (Int.ofNat_tdiv _ _).symm
  have tu : ∀ k : Nat, toU8 (k : Int) = UInt8.ofNat (k % 256) := fun k => by unfold toU8; rw [show ((k : Int) % 256).toNat = k % 256 by omega]
  unfold m_r01_Num
  rw [d_nlt (by omega), cond_false, d_nlt (by omega), cond_false, d_nlt (by omega), cond_false]
  show m_r01_Num_l1 b 2 (1152921504606846975 + 1) _ _ 0 = _
  unfold m_r01_Num_l1
  rw [d_lt (by omega), cond_true, app_ok (by simp), obind_some, e1, e2, tu]
  show m_r01_Num_l1 b 2 (1152921504606846974 + 1) _ _ _ = _
  unfold m_r01_Num_l1
  rw [w64 (n := 0 + 1) (by omega) (by omega), d_lt (by omega), cond_true, app_ok (by simp), obind_some, w64 (n := ((n / 256 : Nat) : Int)) (by omega) (by omega), e3, e4, tu]
  show m_r01_Num_l1 b 2 (1152921504606846973 + 1) _ _ _ = _
  unfold m_r01_Num_l1
  rw [w64 (n := 0 + 1 + 1) (by omega) (by omega), d_nlt (by omega), cond_false, w64 (by omega) (by omega), d_nlt (by omega), cond_false, app_ok (by simp; omega), obind_some, app_ok (by simp; omega), obind_some]
  simp [beb, Nat.mod_mod]
theorem rtext_ok {b s : List UInt8} (hb : b.length ≤ 900000) (hs : s.length < 65536) : m_r01_Text b s = some (b ++ beb 2 s.length ++ s, 0) := by
  unfold m_r01_Text
  rw [rnum2_ok hb hs, obind_some]
  simp only
  rw [decide_eq_false (by simp), cond_false, app_ok (by simp [beb_length]; omega), obind_some]
theorem otext_ok {b s : List UInt8} (hb : b.length ≤ 900000) (hs : s.length < 65536) : m_octet_Text b s = some (b ++ beb 2 s.length ++ s, 0) := by
  unfold m_octet_Text
  rw [chk_ok ⟨by omega, by omega⟩, if_neg (by omega), if_neg (by omega)]
theorem cput_ok {b : List UInt8} {p : List GType} {c : GCommand} (hb : b.length ≤ 400000) (hp : scB p) (hc : cmO c) : m_script_Put b p c = some (putC' b p c) := by
  unfold m_script_Put m_script_Put_j10 putC'
  rw [ccheck_ok hp hc, obind_some]
  by_cases h : chkC p c = 0
  · obtain ⟨s, k, ht, he, _⟩ := chk_parts h
    obtain ⟨h1, h2, h4, h8⟩ := has_ok c k.2
    have em : mkc ((List.length b : Nat) : Int) (IntKind.i64.wrap (((List.length b : Nat) : Int) + 1)) (0 : UInt8) = some (List.replicate b.length 0) := by
      unfold mkc; rw [w64 (by omega) (by omega), if_pos (by omega), Int.toNat_natCast]
    have ec : cpy (List.replicate b.length (0 : UInt8)) b = some b := by
      unfold cpy; rw [if_pos (by simp), List.drop_of_length_le (by simp), List.append_nil]
    rw [decide_eq_false (by simp [h]), cond_false, if_neg (by simp [h]), em, obind_some, ec, obind_some, app_ok (by simp; omega), obind_some, h1, obind_some, h2, obind_some, h4, obind_some, h8]
    unfold cmS
    by_cases a : kC c = 1
    · have := ht a
      rw [decide_eq_true a, cond_true, otext_ok (by simp; omega) (by omega), obind_some, if_pos a]
      simp
    rw [decide_eq_false a, cond_false, if_neg a]
    by_cases d : kC c = 3
    · rw [decide_eq_true d, cond_true, eput_ok (by simp; omega) hp hc.E, obind_some, if_pos d]
      unfold putE
      rw [if_neg (by simp [he d])]
      simp
    rw [decide_eq_false d, cond_false, if_neg d]
    have za := zn_le10 _ (zfold_lt c.A hc.A.1 hc.A.2)
    by_cases f : 4 ≤ kC c
    · rw [decide_eq_true f, cond_true, putint_ok (by simp; omega) hc.A.1 hc.A.2, obind_some, obind_some, if_pos f]
      by_cases g : kC c = 4
      · rw [decide_eq_true g, cond_true, putint_ok (by simp [zb_length]; omega) hc.B.1 hc.B.2, obind_some, if_pos g]
        simp
      · rw [decide_eq_false g, cond_false, if_neg g]
        simp
    · rw [decide_eq_false f, cond_false, if_neg f, obind_some, decide_eq_false (by omega), cond_false, if_neg (by omega)]
      simp
  · rw [decide_eq_true h, if_pos h]; rfl
theorem rcput_ok {b : List UInt8} {p : List GType} {c : GCommand} (hb : b.length ≤ 400000) (hp : scB p) (hc : cmO c) : m_r37_Put b p c = some (putC' b p c) := by
  unfold m_r37_Put m_r37_Put_j5 putC'
  have e : c.Kind.toNat = kC c := rfl
  rw [rccheck_ok hp hc, obind_some]
  by_cases h : chkC p c = 0
  · obtain ⟨s, k, ht, he, _⟩ := chk_parts h
    rw [decide_eq_false (by simp [h]), cond_false, if_neg (by simp [h]), app_ok (by simp; omega), obind_some, app_ok (by simp; omega), obind_some, e, List.nil_append]
    unfold cmS
    by_cases a : kC c = 1
    · have := ht a
      rw [decide_eq_true (by omega), cond_true, rtext_ok (by simp; omega) (by omega), obind_some, if_pos a]
      simp
    rw [decide_eq_false (by omega), cond_false, if_neg a]
    by_cases d : kC c = 3
    · rw [decide_eq_true (by omega), cond_true, reput_ok (by simp; omega) hp hc.E, obind_some, if_pos d]
      unfold putE
      rw [if_neg (by simp [he d])]
      simp
    rw [decide_eq_false (by omega), cond_false, if_neg d]
    have za := zfold_lt c.A hc.A.1 hc.A.2
    have zb' := zfold_lt c.B hc.B.1 hc.B.2
    have zl := zn_le10 _ za
    by_cases f : 4 ≤ kC c
    · rw [decide_eq_true (by omega), cond_true, rfold_ok hc.A.1 hc.A.2, obind_some, rput_ok (by simp; omega) za, obind_some, if_pos f]
      by_cases g : kC c = 4
      · rw [decide_eq_true (by omega), cond_true, rfold_ok hc.B.1 hc.B.2, obind_some, rput_ok (by simp [zb_length]; omega) zb', obind_some, if_pos g]
        simp
      · rw [decide_eq_false (by omega), cond_false, if_neg g]
        simp
    · rw [decide_eq_false (by omega), cond_false, if_neg f, decide_eq_false (by omega), cond_false, if_neg (by omega)]
      simp
  · rw [decide_eq_true h, if_pos h]; rfl
theorem cm_len {p : List GType} {c : GCommand} (hp : scB p) (hc : cmO c) (h : chkC p c = 0) : 1 ≤ (cmS p c).length ∧ (cmS p c).length ≤ 620 := by
  obtain ⟨s, k, ht, he, _⟩ := chk_parts h
  have za := zn_le10 _ (zfold_lt c.A hc.A.1 hc.A.2)
  have zb' := zn_le10 _ (zfold_lt c.B hc.B.1 hc.B.2)
  unfold cmS
  by_cases a : kC c = 1
  · have := ht a
    rw [if_pos a]; simp [beb_length]; omega
  rw [if_neg a]
  by_cases d : kC c = 3
  · have := evB_len hp (evC_zero (he d)) hc.E
    rw [if_pos d]; simp; omega
  rw [if_neg d]
  by_cases f : 4 ≤ kC c <;> by_cases g : kC c = 4 <;> simp [f, g, zb_length] <;> omega
/-! ### scripts -/
def wrL (p : List GType) : List GCommand → List UInt8 → List UInt8 × Int
  | [], b => (b, 0)
  | c :: r, b => if chkC p c ≠ 0 then ([], chkC p c) else wrL p r (b ++ cmS p c)
theorem wr_loop {p : List GType} {L : Nat → List UInt8 → Int → Option (List UInt8 × Int)} {l : List GCommand} (hp : scB p) (hl : l.length ≤ 400) (hO : ∀ c ∈ l, cmO c) (hend : ∀ fu b, L (fu + 1) b (l.length : Int) = some (b, 0))
    (hstep : ∀ fu b i (h : i < l.length), b.length ≤ 400000 → L (fu + 1) b (i : Int) = if chkC p l[i] ≠ 0 then some ([], chkC p l[i]) else L fu (b ++ cmS p l[i]) ((i + 1 : Nat) : Int)) :
    ∀ (fu i : Nat) (b : List UInt8), l.length - i < fu → i ≤ l.length → b.length ≤ 620 * i → L fu b (i : Int) = some (wrL p (l.drop i) b)
  | 0, i, b, h, _, _ => by omega
  | fu + 1, i, b, h, hi, hb => by
    by_cases c : i < l.length
    · rw [hstep fu b i c (by omega), drop_cons c, wrL]
      by_cases d : chkC p l[i] = 0
      · have := (cm_len hp (hO _ (List.getElem_mem c)) d).2
        rw [if_neg (by simp [d]), if_neg (by simp [d]), wr_loop hp hl hO hend hstep fu (i + 1) _ (by omega) (by omega) (by rw [List.length_append]; omega)]
      · rw [if_pos d, if_pos d]
    · obtain rfl : i = l.length := by omega
      rw [hend, List.drop_of_length_le (Nat.le_refl _)]; rfl
theorem write_ok {p : List GType} {l : List GCommand} (hp : scB p) (hl : l.length ≤ 400) (hO : ∀ c ∈ l, cmO c) : m_script_Write p l = some (wrL p l []) ∧ m_r37_Write p l = some (wrL p l []) := by
  constructor
  · unfold m_script_Write
    rw [d_nlt (by omega), cond_false]
    have := wr_loop (L := m_script_Write_l2 p l) hp hl hO (fun fu b => by unfold m_script_Write_l2; rw [d_nlt (by omega)]; rfl) (fun fu b i h hb => by
      conv => lhs; unfold m_script_Write_l2
      rw [d_lt (by omega), cond_true, geti_lt h, obind_some, cput_ok hb hp (hO _ (List.getElem_mem h)), obind_some, inc_ok (by omega)]
      unfold putC'
      by_cases d : chkC p l[i] = 0
      · rw [if_neg (by simp [d]), if_neg (by simp [d]), decide_eq_false (by simp)]; rfl
      · rw [if_pos d, if_pos d, decide_eq_true d]; rfl) 1152921504606846976 0 [] (by omega) (Nat.zero_le _) (by simp)
    exact this
  · unfold m_r37_Write
    rw [d_nlt (by omega), cond_false]
    have := wr_loop (L := m_r37_Write_l1 p l) hp hl hO (fun fu b => by unfold m_r37_Write_l1; rw [d_nlt (by omega)]; rfl) (fun fu b i h hb => by
      conv => lhs; unfold m_r37_Write_l1
      rw [d_lt (by omega), cond_true, geti_lt h, obind_some, rcput_ok hb hp (hO _ (List.getElem_mem h)), obind_some, inc_ok (by omega)]
      unfold putC'
      by_cases d : chkC p l[i] = 0
      · rw [if_neg (by simp [d]), if_neg (by simp [d]), decide_eq_false (by simp)]; rfl
      · rw [if_pos d, if_pos d, decide_eq_true d]; rfl) 1152921504606846976 0 [] (by omega) (Nat.zero_le _) (by simp)
    exact this
end Go.Proofs.YtaaooafcijdbmaaDoor.K

namespace Go.Proofs.YtaaooafcijdbmaaDoor.K
open Go.RowKit Go.Lib
theorem awk37 : m_w37_awake = some true := by decide +kernel
theorem over37_ok {l : List GCommand} {k : Int} (hk : k ≤ 1000000) (hw : wfL wf_GCommand l) : ∃ r, m_w37_Over l k = some r ∧ (r = 1 ∨ r = 0 ∧ (l.length : Int) ≤ k ∧ ∀ c ∈ l, cmO c) := by
  unfold m_w37_Over
  by_cases h : k < (l.length : Int)
  · rw [d_lt h]; exact ⟨1, rfl, .inl rfl⟩
  rw [d_nlt h, cond_false]
  have := loop1_0 (L := fun fu i => m_w37_Over_l1 l fu i) (n := l.length) (P := fun i o => ∃ r, o = some r ∧ (r = 1 ∨ r = 0 ∧ ∀ c ∈ l.drop i, cmO c)) (by omega)
    (fun fu => by unfold m_w37_Over_l1; rw [d_nlt (by omega)]; exact ⟨0, rfl, .inr ⟨rfl, by simp⟩⟩)
    (fun fu i hi ih => by
      have hwi := hw.2 l[i] (List.getElem_mem hi)
      unfold m_w37_Over_l1
      rw [d_lt (by omega), cond_true, geti_lt hi, obind_some]
      by_cases h1 : 700 < l[i].Text.length
      · rw [d_lt (by omega)]; exact ⟨1, rfl, .inl rfl⟩
      rw [d_nlt (by omega), cond_false, obind_some]
      obtain ⟨r0, e0, q0⟩ := over_ok (l := [l[i].E]) (k := 1) (by decide) (fun e he => by simp only [List.mem_singleton] at he; subst he; exact wf_evM hwi.E)
      rw [e0, obind_some]
      rcases q0 with rfl | ⟨rfl, _, q0⟩
      · rw [d_lt (by decide)]; exact ⟨1, rfl, .inl rfl⟩
      rw [d_nlt (by decide), cond_false, inc_ok (by omega)]
      obtain ⟨r, e, q⟩ := ih
      refine ⟨r, e, q.imp id fun ⟨q1, q2⟩ => ⟨q1, ?_⟩⟩
      rw [drop_cons hi]
      intro c hc
      rcases List.mem_cons.1 hc with rfl | hc
      · exact ⟨by omega, in_i64 hwi.A, in_i64 hwi.B, wf_evO hwi.E (q0 _ (by simp))⟩
      · exact q2 c hc)
  obtain ⟨r, e, q⟩ := this
  exact ⟨r, e, q.imp id fun q => ⟨q.1, by omega, by simpa using q.2⟩⟩
theorem own37_ok {l : List GCommand} (hl : l.length ≤ 1000) (hO : ∀ c ∈ l, cmO c) : m_w37_Own l = some l := by
  have := map_loop (L := fun fu s i => m_w37_Own_l0 l fu s i) (l := l) (f := id) (e := id) (by omega) (fun fu s => by unfold m_w37_Own_l0; rw [d_nlt (by omega)]; rfl)
    (fun fu s i h hs => by
      have hn := (hO l[i] (List.getElem_mem h)).E.L
      conv => lhs; unfold m_w37_Own_l0
      rw [d_lt (by omega), cond_true, geti_lt h, obind_some, own_ok (by omega), obind_some, app_ok (by simp; omega), obind_some, inc_ok (by omega)]; rfl)
  rw [List.map_id] at this; exact this
end Go.Proofs.YtaaooafcijdbmaaDoor.K

namespace Go.Proofs.YtaaooafcijdbmaaDoor.K
open Go.RowKit Go.Lib
theorem main_ScriptWrites (p : List GType) (l : List GCommand) (wp : wfL wf_GType p) (wl : wfL wf_GCommand l) : m_w37_ScriptWrites p l = some true := by
  unfold m_w37_ScriptWrites
  rw [awk37]
  obtain ⟨r, e1, q⟩ := over06_ok wp.1 fun t ht => wf_tyM (wp.2 t ht)
  rw [e1, obind_some]
  rcases q with rfl | ⟨rfl, hp⟩
  · rfl
  obtain ⟨r2, e2, q2⟩ := over37_ok (l := l) (k := 20) (by decide) wl
  rw [d_nlt (by decide), cond_false, e2, obind_some]
  rcases q2 with rfl | ⟨rfl, hl, hO⟩
  · rfl
  rw [d_nlt (by decide), cond_false, own06_ok hp, obind_some, own37_ok (by omega) hO, obind_some]
  refine loop1_0 (L := fun fu i => m_w37_ScriptWrites_l4 p l p l fu i) (n := l.length) (P := fun i o => o = some true) (by omega) (fun fu => ?_) (fun fu i hi ih => ?_)
  · show m_w37_ScriptWrites_l4 p l p l (fu + 1) _ = _
    unfold m_w37_ScriptWrites_l4
    obtain ⟨w1, w2⟩ := write_ok hp (by omega) hO
    rw [d_nlt (by omega), cond_false, w1, obind_some, w2, obind_some, decide_eq_true rfl, cond_true, decide_eq_true rfl, cond_true, awk37]
    rfl
  · show m_w37_ScriptWrites_l4 p l p l (fu + 1) _ = _
    unfold m_w37_ScriptWrites_l4 m_w37_ScriptWrites_j9
    have hc := hO _ (List.getElem_mem hi)
    rw [d_lt (by omega), cond_true, geti_lt hi, obind_some, cput_ok (by simp) hp hc, obind_some, obind_some, rcput_ok (by simp) hp hc, obind_some, decide_eq_false (by simp), cond_false, decide_eq_false (by simp), cond_false, obind_some, ccheck_ok hp hc, obind_some, obind_some, rccheck_ok hp hc, obind_some, decide_eq_false (by simp), cond_false, inc_ok (by omega)]
    by_cases h0 : 0 < i
    · have hj : i - 1 < l.length := by omega
      have hd := hO _ (List.getElem_mem hj)
      have l1 := hc.E.L
      have l2 := hd.E.L
      obtain ⟨s1, s2⟩ := csame_ok (a := l[i - 1]) (b := l[i]) (by omega) (by omega)
      rw [d_lt (by omega), cond_true, w64 (by omega) (by omega), show ((i : Int) - 1) = ((i - 1 : Nat) : Int) by omega, geti_lt hj, obind_some, obind_some, s1, obind_some, obind_some, obind_some, s2, obind_some, decide_eq_false (by simp), cond_false]
      exact ih
    · rw [d_nlt (by omega), cond_false]
      exact ih
end Go.Proofs.YtaaooafcijdbmaaDoor.K

namespace Go.Proofs.YtaaooafcijdbmaaDoor
open Go.ChangeShapes Go.WideShapes Go.ChangeAt Go.RowKit
def partL : List Nat := [0, 1, 0, 2, 12, 4, 4, 4]
theorem laid_list {H : Type} : (Rows.laid_telltale_script_parts : DataW H) = .agg (partL.map fun (n : Nat) => .lit (.int .u8 (n : Int))) := rfl
theorem partsType : (Tryd.prog.globals[0]?).map (·.type) = some 100 := by kernel_rfl
theorem gw_of_laid {W : World} (h : laidMet Tryd.prog Rows.scriptWritesRow.laid W) : K.GW (fun b => b < W.heap.size) W := by
  obtain ⟨ps, ⟨g, t, cs, fuel, p, q, hg, ht, hvar, hd, _, _⟩, _⟩ := h
  obtain rfl : 0 = g := Option.some.inj (Eq.trans (by kernel_rfl) hg)
  obtain rfl := Option.some.inj (partsType.symm.trans ht)
  obtain ⟨xs, m, _, hx, hlen, hxl, hi⟩ := DataW.trod_array Tryd.underlying100 hd
  have hc5 : Tryd.prog.cellsOf 5 = 1 := by kernel_rfl
  have hc : Tryd.prog.cellsOf 100 = 8 := by kernel_rfl
  rw [hc] at hlen
  have hmap : (partL.map fun (n : Nat) => (DataW.lit (.int .u8 (n : Int)) : DataW Unit)) = xs.map (·.1) := by
    have := (Prod.mk.inj hx).1
    rw [laid_list] at this
    exact DataW.agg.inj this
  have key : ∀ i : Nat, i < 8 → ∀ n : Nat, partL[i]? = some n → W.cell? ⟨0, i, none⟩ = some (.int .u8 (n : Int)) := fun i hlt n hn => by
    have h1 := hi i hlt
    rw [hc5, Nat.mul_one, List.getElem?_eq_getElem (by omega)] at h1
    obtain ⟨a, h2, h3, _⟩ := DataW.trod_int Tryd.underlying5 h1
    have h4 := congrArg (·[i]?) hmap
    simp only [List.getElem?_map, hn, Option.map_some, List.getElem?_eq_getElem (show i < xs.length by omega), h3, Option.some.injEq] at h4
    simp only [DataW.lit.injEq, Lit.int.injEq, true_and] at h4
    have h5 : ((n : Nat) : Int) = a := h4
    rw [World.var?_cell hg hvar i]
    have h6 := congrArg (·[0]?) h2
    simp only [List.getElem?_take, List.getElem?_drop] at h6
    simpa [h5] using h6
  have hsz : 0 < W.heap.size := by
    have := key 0 (by decide) 0 rfl
    unfold World.cell? at this
    cases hb : W.heap[0]? with
    | none => simp [hb] at this
    | some o => exact (Array.getElem?_eq_some_iff.1 hb).1
  intro g ds e
  match g, e with
  | 0, e =>
    cases e
    refine K.RepDs.of _ _ _ fun j c hj => ?_
    have hj8 : j < 8 := (List.getElem?_eq_some_iff.1 hj).1
    have : ∃ n, partL[j]? = some n ∧ c = .lit (.int .u8 (n : Int)) := by
      have j8 : j = 0 ∨ j = 1 ∨ j = 2 ∨ j = 3 ∨ j = 4 ∨ j = 5 ∨ j = 6 ∨ j = 7 := by omega
      rcases j8 with rfl | rfl | rfl | rfl | rfl | rfl | rfl | rfl <;> cases hj <;> exact ⟨_, rfl, rfl⟩
    obtain ⟨n, hn, rfl⟩ := this
    refine ⟨_, _, rfl, ?_, hsz, rfl, by unfold K.RepD; exact ⟨rfl, rfl⟩⟩
    rw [K.addr_add, Nat.zero_add, Nat.zero_add]
    exact key j hj8 n hn
  | g + 1, e => cases e
/-- The settled world, but the variable holds what the row lists. -/
def setParts : Obj → Obj
  | .cells _ t frozen => .cells (partL.map fun (n : Nat) => Value.int .u8 (n : Int)).toArray t frozen
  | o => o
theorem laid_met (os : Os) (args : Array Value) : laidMet Tryd.prog Rows.scriptWritesRow.laid (({ World.holding Tryd.prog os ⟨#[], #[], []⟩ with heap := (World.holding Tryd.prog os ⟨#[], #[], []⟩).heap.modify 0 setParts } : World).forCall (fun _ _ => 0) ⟨#[], args, []⟩).memory :=
  laidMet_of_run (ps := (List.range 8).map fun i => .cell 0 i) 12 (by kernel_rfl) (by kernel_rfl) (by kernel_rfl)
end Go.Proofs.YtaaooafcijdbmaaDoor
