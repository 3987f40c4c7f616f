/- Merged: Peq Pesm Psnm Psch Pso Pev Pevc Pew. -/
import Derived.Test.YtaaooafcijdbmaaDoorZB2
import Derived.Test.YtaaooafcijdbmaaDoorZOC
import Derived.Test.YtaaooafcijdbmaaDoorZAm
import Derived.Test.YtaaooafcijdbmaaDoorRows
import Derived.LaidLaws
import Derived.Handed
set_option linter.unusedVariables false
set_option linter.unusedSimpArgs false
namespace Go.Proofs.YtaaooafcijdbmaaDoor.K
open Go.RowKit Go.Lib
theorem eq_loop {α : Type} [DecidableEq α] {L : Nat → Int → Option Bool} {a b : List α} (hl : a.length = b.length) (hb : a.length ≤ 1000000000) (hend : ∀ fu, L (fu + 1) (a.length : Int) = some true)
    (hstep : ∀ (fu i : Nat) (h1 : i < a.length) (h2 : i < b.length), L (fu + 1) (i : Int) = if a[i] = b[i] then L fu ((i + 1 : Nat) : Int) else some false) : L 1152921504606846976 0 = some (decide (a = b)) := by
  have := loop1_0 (L := L) (n := a.length) (P := fun i o => o = some (decide (a.drop i = b.drop i))) (by omega)
    (fun fu => by
      rw [hend, List.drop_eq_nil_of_le (Nat.le_refl _), List.drop_eq_nil_of_le (by omega)]; rfl)
    (fun fu i hi ih => by
      rw [hstep fu i hi (by omega), drop_cons hi, drop_cons (l := b) (by omega)]
      by_cases h : a[i] = b[i]'(by omega)
      · rw [if_pos h, ih]
        congr 1
        exact decide_eq_decide.2 ⟨fun e => by rw [h, e], fun e => (List.cons.inj e).2⟩
      · rw [if_neg h]
        congr 1
        exact (decide_eq_false fun e => h (List.cons.inj e).1).symm)
  simpa using this
end Go.Proofs.YtaaooafcijdbmaaDoor.K
namespace Go.Proofs.YtaaooafcijdbmaaDoor.K
open Go.RowKit Go.Lib
theorem same4 (v w : GValue) : (decide (((v.Kind.toNat : Nat) : Int) = ((w.Kind.toNat : Nat) : Int)) && (decide (v.N = w.N) && (decide (v.Bits = w.Bits) && (decide (v.Text = w.Text) && true)))) = decide (v = w) := by
  rw [Bool.eq_iff_iff]
  obtain ⟨k, n, b, t⟩ := v
  obtain ⟨k', n', b', t'⟩ := w
  simp only [Bool.and_eq_true, decide_eq_true_eq, and_true, GValue.mk.injEq]
  constructor
  · rintro ⟨h1, h2, h3, h4⟩
    exact ⟨UInt8.toNat_inj.1 (by omega), h2, h3, h4⟩
  · rintro ⟨h1, h2, h3, h4⟩
    exact ⟨by rw [h1], h2, h3, h4⟩
theorem evEq {a b : GEvent} (h1 : a.Time = b.Time) (h2 : a.Source = b.Source) (h3 : a.Seq = b.Seq) (h4 : a.Type_ = b.Type_) (h5 : a.Vals = b.Vals) : a = b := by
  cases a; cases b; simp_all
theorem rsame_ok {a b : GEvent} (ha : a.Vals.length ≤ 1000000) (hb : b.Vals.length ≤ 1000000) : m_r07_Same a b = some (decide (a = b)) := by
  unfold m_r07_Same m_r07_Same_j1
  by_cases h1 : a.Time = b.Time
  · rw [decide_eq_false (by simp [h1]), cond_false]
    by_cases h2 : a.Source = b.Source
    · rw [decide_eq_false (by simp [h2]), cond_false]
      by_cases h3 : a.Seq = b.Seq
      · rw [decide_eq_false (by simp [h3]), cond_false]
        by_cases h4 : a.Type_ = b.Type_
        · rw [decide_eq_false (by simp [h4]), cond_false]
          by_cases h5 : a.Vals.length = b.Vals.length
          · rw [decide_eq_false (by simp [h5]), cond_false]
            have := eq_loop (L := fun fu i => m_r07_Same_l2 a b fu i) (a := a.Vals) (b := b.Vals) h5 (by omega)
              (fun fu => by unfold m_r07_Same_l2; rw [d_nlt (by omega)]; rfl)
              (fun fu i i1 i2 => by
                conv => lhs; unfold m_r07_Same_l2
                rw [d_lt (by omega), cond_true, geti_lt i1, obind_some, geti_lt i2, obind_some, same4, obind_some, inc_ok (by omega)]
                by_cases h : a.Vals[i] = b.Vals[i]
                · rw [decide_eq_true h, if_pos h]; rfl
                · rw [decide_eq_false h, if_neg h]; rfl)
            refine this.trans ?_
            congr 1
            exact decide_eq_decide.2 ⟨fun h => evEq h1 h2 h3 h4 h, fun h => by rw [h]⟩
          · rw [decide_eq_true (by omega), decide_eq_false (fun h : a = b => h5 (by rw [h]))]; rfl
        · rw [decide_eq_true h4, decide_eq_false (fun h : a = b => h4 (by rw [h]))]; rfl
      · rw [decide_eq_true h3, decide_eq_false (fun h : a = b => h3 (by rw [h]))]; rfl
    · rw [decide_eq_true h2, decide_eq_false (fun h : a = b => h2 (by rw [h]))]; rfl
  · rw [decide_eq_true h1, decide_eq_false (fun h : a = b => h1 (by rw [h]))]; rfl
end Go.Proofs.YtaaooafcijdbmaaDoor.K
namespace Go.Proofs.YtaaooafcijdbmaaDoor.K
open Go.RowKit Go.Lib
def lett (c : UInt8) : Bool := decide (97 ≤ c.toNat) && decide (c.toNat ≤ 122)
def tailc (c : UInt8) : Bool := lett c || (decide (48 ≤ c.toNat) && decide (c.toNat ≤ 57)) || decide (c.toNat = 95)
def resW : List (List UInt8) := [[119, 105, 116, 104, 105, 110], [98, 121], [97, 110, 100], [111, 114], [110, 111, 116], [97, 110, 121], [110, 101, 120, 116], [115, 116, 114, 105, 99, 116], [116, 114, 117, 101], [102, 97, 108, 115, 101]]
def resv (s : List UInt8) : Bool := decide (s ∈ resW)
def nameB : List UInt8 → Bool
  | [] => false
  | c :: t => decide (t.length < 12) && !resv (c :: t) && lett c && t.all tailc
theorem nameB_cons (c : UInt8) (t : List UInt8) : nameB (c :: t) = (decide (t.length < 12) && !resv (c :: t) && lett c && t.all tailc) := rfl
theorem letter_ok (c : UInt8) : m_schema_letter c = some (lett c) := by
  unfold m_schema_letter lett
  by_cases h : 97 ≤ c.toNat
  · rw [decide_eq_true (by omega), cond_true, decide_eq_true h, Bool.true_and]
    congr 1; exact decide_eq_decide.2 (by omega)
  · rw [decide_eq_false (by omega), decide_eq_false h]; rfl
theorem tail_ok (c : UInt8) : m_schema_tail c = some (tailc c) := by
  unfold m_schema_tail tailc
  rw [letter_ok, obind_some]
  cases lett c with
  | true => rfl
  | false =>
    rw [cond_false, Bool.false_or]
    have e : decide (((c.toNat : Nat) : Int) = 95) = decide (c.toNat = 95) := decide_eq_decide.2 (by omega)
    rw [e]
    by_cases h : 48 ≤ c.toNat
    · rw [decide_eq_true (by omega), cond_true, decide_eq_true h, Bool.true_and]
      by_cases h2 : c.toNat ≤ 57
      · rw [decide_eq_true (by omega), decide_eq_true h2]; rfl
      · rw [decide_eq_false (by omega), decide_eq_false h2, cond_false, Bool.false_or]
    · rw [decide_eq_false (by omega), decide_eq_false h, cond_false, Bool.false_and, Bool.false_or]
theorem reserved_ok (s : List UInt8) : m_schema_Reserved s = some (resv s) := by
  unfold resv
  by_cases h : s ∈ resW
  · rw [decide_eq_true h]
    simp only [resW, List.mem_cons, List.not_mem_nil, or_false] at h
    rcases h with rfl | rfl | rfl | rfl | rfl | rfl | rfl | rfl | rfl | rfl <;> decide +kernel
  · rw [decide_eq_false h]
    simp only [resW, List.mem_cons, List.not_mem_nil, or_false, not_or] at h
    obtain ⟨h1, h2, h3, h4, h5, h6, h7, h8, h9, h10⟩ := h
    unfold m_schema_Reserved m_schema_Reserved_j0
    rw [decide_eq_false h1, cond_false, decide_eq_false h2, cond_false, decide_eq_false h3, cond_false, decide_eq_false h4, cond_false, decide_eq_false h5, cond_false, decide_eq_false h6, cond_false, decide_eq_false h7, cond_false, decide_eq_false h8, cond_false, decide_eq_false h9, cond_false, decide_eq_false h10, cond_false]
theorem rres_step (s : List UInt8) (fu i : Nat) : m_r06_Reserved_l0 s (fu + 1) (i : Int) = cond (decide ((i : Int) < ((resW.length : Nat) : Int))) (Option.bind (geti resW (i : Int)) fun x => cond (decide (x = s)) (some true) (m_r06_Reserved_l0 s fu (IntKind.i64.wrap ((i : Int) + 1)))) (some false) := rfl
theorem rreserved_ok (s : List UInt8) : m_r06_Reserved s = some (resv s) := by
  unfold m_r06_Reserved resv
  have := loop1_0 (L := fun fu i => m_r06_Reserved_l0 s fu i) (n := resW.length) (P := fun i o => o = some (decide (s ∈ resW.drop i))) (by decide)
    (fun fu => by rw [rres_step, d_nlt (by omega), List.drop_of_length_le (Nat.le_refl _)]; rfl)
    (fun fu i hi ih => by
      have hl : resW.length = 10 := rfl
      rw [rres_step, d_lt (by omega), cond_true, geti_lt hi, obind_some, inc_ok (by omega), ih, drop_cons hi]
      by_cases h : resW[i] = s
      · rw [decide_eq_true h, cond_true, decide_eq_true (by rw [h]; simp)]
      · rw [decide_eq_false h, cond_false]
        congr 1
        exact decide_eq_decide.2 ⟨fun q => List.mem_cons_of_mem _ q, fun q => (List.mem_cons.1 q).resolve_left fun e => h e.symm⟩)
  rw [List.drop_zero] at this; exact this
theorem name_l {s : List UInt8} (hs : s.length ≤ 1000) (fu i : Nat) (h1 : i ≤ s.length) (h2 : s.length - i < fu) : m_schema_Name_l2 s fu (i : Int) = some ((s.drop i).all tailc) :=
  loop1 (L := fun fu i => m_schema_Name_l2 s fu i) (n := s.length) (P := fun i o => o = some ((s.drop i).all tailc))
    (fun fu => by unfold m_schema_Name_l2; rw [d_nlt (by omega), List.drop_of_length_le (Nat.le_refl _)]; rfl)
    (fun fu i hi ih => by
      unfold m_schema_Name_l2
      rw [d_lt (by omega), cond_true, geti_lt hi, obind_some, tail_ok, obind_some, inc_ok (by omega), ih, drop_cons hi, List.all_cons]
      cases tailc s[i] <;> rfl) fu i h1 h2
theorem name_ok (s : List UInt8) : m_schema_Name s = some (nameB s) := by
  unfold m_schema_Name m_schema_Name_j1
  cases s with
  | nil => rfl
  | cons c t =>
    rw [decide_eq_false (by simp), cond_false]
    rw [nameB_cons]
    by_cases h : t.length < 12
    · rw [d_nlt (by simp; omega), cond_false, geti_0, obind_some, letter_ok, obind_some, reserved_ok, obind_some, decide_eq_true h, Bool.true_and]
      cases lett c with
      | false => simp
      | true =>
        cases resv (c :: t) with
        | true => rfl
        | false =>
          have := name_l (s := c :: t) (by simp; omega) 1152921504606846976 1 (by simp) (by simp; omega)
          simpa using this
    · rw [d_lt (by simp; omega), decide_eq_false h]; rfl
theorem rn_step {s : List UInt8} {i : Nat} (hi : i < s.length) (hs : s.length ≤ 1000) (fu : Nat) : m_r06_Name_l2 s (fu + 1) (i : Int) =
    if lett s[i] = true then m_r06_Name_l2 s fu ((i + 1 : Nat) : Int) else if i = 0 then some false else if tailc s[i] = true then m_r06_Name_l2 s fu ((i + 1 : Nat) : Int) else some false := by
  conv => lhs; unfold m_r06_Name_l2 m_r06_Name_j6 m_r06_Name_j10 m_r06_Name_j11
  rw [d_lt (by omega), cond_true, geti_lt hi, inc_ok (by omega)]
  simp only [obind_some]
  unfold tailc lett
  generalize hc : s[i].toNat = c
  by_cases h1 : 97 ≤ c <;> by_cases h2 : c ≤ 122 <;> by_cases h3 : 48 ≤ c <;> by_cases h4 : c ≤ 57 <;> by_cases h5 : c = 95 <;> by_cases h6 : i = 0 <;>
    first
    | (exfalso; omega)
    | (rw [show decide ((97 : Int) ≤ (c : Int)) = decide (97 ≤ c) from decide_eq_decide.2 (by omega), show decide ((48 : Int) ≤ (c : Int)) = decide (48 ≤ c) from decide_eq_decide.2 (by omega), show decide ((c : Int) ≤ 57) = decide (c ≤ 57) from decide_eq_decide.2 (by omega), show decide ((c : Int) ≤ 122) = decide (c ≤ 122) from decide_eq_decide.2 (by omega), show decide ((c : Int) = 95) = decide (c = 95) from decide_eq_decide.2 (by omega), show decide ((i : Int) = 0) = decide (i = 0) from decide_eq_decide.2 (by omega)]; simp [h1, h2, h3, h4, h5, h6])
theorem rname_ok (s : List UInt8) : m_r06_Name s = some (nameB s) := by
  unfold m_r06_Name m_r06_Name_j1
  cases s with
  | nil => rfl
  | cons c t =>
    rw [d_nlt (by simp; omega), cond_false]
    rw [nameB_cons]
    by_cases h : t.length < 12
    · rw [d_nlt (by simp; omega), cond_false, rreserved_ok, obind_some, decide_eq_true h, Bool.true_and]
      cases resv (c :: t) with
      | true => rfl
      | false =>
        have hlen : (c :: t).length ≤ 12 := by simp; omega
        have := loop1_0 (L := fun fu i => m_r06_Name_l2 (c :: t) fu i) (n := (c :: t).length) (P := fun i o => o = some (if i = 0 then lett c && t.all tailc else ((c :: t).drop i).all tailc)) (by simp; omega)
          (fun fu => by unfold m_r06_Name_l2; rw [d_nlt (by omega), List.drop_of_length_le (Nat.le_refl _)]; simp)
          (fun fu i hi ih => by
            rw [if_neg (Nat.succ_ne_zero i)] at ih
            rw [rn_step hi (by omega), ih]
            cases i with
            | zero =>
              show (if lett c = true then some (t.all tailc) else if (0 : Nat) = 0 then some false else if tailc c = true then some (t.all tailc) else some false) = some (if (0 : Nat) = 0 then lett c && t.all tailc else (c :: t).all tailc)
              cases lett c <;> rfl
            | succ i =>
              rw [if_neg (Nat.succ_ne_zero i), if_neg (Nat.succ_ne_zero i), drop_cons hi, List.all_cons]
              by_cases h1 : lett (c :: t)[i + 1] = true
              · rw [if_pos h1, show tailc (c :: t)[i + 1] = true by unfold tailc; rw [h1]; rfl]; rfl
              · rw [if_neg h1]
                cases tailc (c :: t)[i + 1] <;> rfl)
        rw [if_pos rfl] at this
        rw [cond_false, this]; rfl
    · rw [d_lt (by simp; omega), decide_eq_false h]; rfl
end Go.Proofs.YtaaooafcijdbmaaDoor.K
namespace Go.Proofs.YtaaooafcijdbmaaDoor.K
open Go.RowKit Go.Lib
/-- A loop that looks for one of a list. -/
theorem any_loop {α R : Type} {L : Nat → Int → Option R} {A : List α} {q : α → Bool} {y n : Option R} (hA : A.length ≤ 1000000000) (hend : ∀ fu, L (fu + 1) (A.length : Int) = n)
    (hstep : ∀ (fu j : Nat) (h : j < A.length), L (fu + 1) (j : Int) = if q A[j] = true then y else L fu ((j + 1 : Nat) : Int)) : L 1152921504606846976 0 = if A.any q = true then y else n := by
  have := loop1_0 (L := L) (n := A.length) (P := fun j o => o = if (A.drop j).any q = true then y else n) (by omega)
    (fun fu => by rw [hend, List.drop_of_length_le (Nat.le_refl _), if_neg (by simp)])
    (fun fu j hj ih => by
      rw [hstep fu j hj, ih, drop_cons hj, List.any_cons]
      cases q A[j] with
      | true => rw [if_pos rfl, Bool.true_or, if_pos rfl]
      | false => rw [if_neg (by simp), Bool.false_or])
  rw [List.drop_zero] at this; exact this
def kindB (k : UInt8) : Bool := decide (k.toNat = 1) || decide (k.toNat = 2) || decide (k.toNat = 3) || decide (k.toNat = 4)
theorem word_k (k : UInt8) : ∃ w, m_value_Word k = some w ∧ m_r04_Word k = some w ∧ decide (w = []) = !kindB k := by
  unfold m_value_Word m_r04_Word kindB
  by_cases h1 : k.toNat = 1
  · rw [decide_eq_true (p := ((k.toNat : Nat) : Int) = 1) (by omega)]; exact ⟨_, rfl, rfl, by simp [h1]⟩
  rw [decide_eq_false (p := ((k.toNat : Nat) : Int) = 1) (by omega)]
  by_cases h2 : k.toNat = 2
  · rw [decide_eq_true (p := ((k.toNat : Nat) : Int) = 2) (by omega)]; exact ⟨_, rfl, rfl, by simp [h2]⟩
  rw [decide_eq_false (p := ((k.toNat : Nat) : Int) = 2) (by omega)]
  by_cases h3 : k.toNat = 3
  · rw [decide_eq_true (p := ((k.toNat : Nat) : Int) = 3) (by omega)]; exact ⟨_, rfl, rfl, by simp [h3]⟩
  rw [decide_eq_false (p := ((k.toNat : Nat) : Int) = 3) (by omega)]
  by_cases h4 : k.toNat = 4
  · rw [decide_eq_true (p := ((k.toNat : Nat) : Int) = 4) (by omega)]; exact ⟨_, rfl, rfl, by simp [h4]⟩
  rw [decide_eq_false (p := ((k.toNat : Nat) : Int) = 4) (by omega)]
  exact ⟨_, rfl, rfl, by simp [h1, h2, h3, h4]⟩
/-- The place of a field by its name, and its kind. -/
def fAt : List GField → List UInt8 → Nat → Int × UInt8
  | [], _, _ => (-1, 0)
  | f :: r, n, i => if f.Name = n then ((i : Int), f.Kind) else fAt r n (i + 1)
theorem field_ok {t : GType} (n : List UInt8) (h : t.Fields.length ≤ 1000) : m_schema_Type_Field t n = some (fAt t.Fields n 0) := by
  unfold m_schema_Type_Field
  have := loop1_0 (L := fun fu i => m_schema_Type_Field_l1 t n fu i) (n := t.Fields.length) (P := fun i o => o = some (fAt (t.Fields.drop i) n i)) (by omega)
    (fun fu => by unfold m_schema_Type_Field_l1; rw [d_nlt (by omega), List.drop_of_length_le (Nat.le_refl _)]; rfl)
    (fun fu i hi ih => by
      unfold m_schema_Type_Field_l1
      rw [d_lt (by omega), cond_true, geti_lt hi, obind_some, inc_ok (by omega), ih, drop_cons hi, fAt]
      by_cases hn : t.Fields[i].Name = n
      · rw [decide_eq_true hn, if_pos hn]; rfl
      · rw [decide_eq_false hn, if_neg hn]; rfl)
  rw [List.drop_zero] at this; exact this
def hasN (l : List GField) (n : List UInt8) : Bool := l.any fun f => decide (f.Name = n)
theorem fAt_pre : ∀ (pre : List GField) (f : GField) (r : List GField) (k : Nat), decide ((fAt (pre ++ f :: r) f.Name k).1 ≠ ((k + pre.length : Nat) : Int)) = hasN pre f.Name
  | [], f, r, k => by
    rw [List.nil_append, fAt, if_pos rfl]; simp [hasN]
  | g :: pre, f, r, k => by
    have ih := fAt_pre pre f r (k + 1)
    rw [List.cons_append, fAt]
    unfold hasN at ih ⊢
    rw [List.any_cons]
    by_cases h : g.Name = f.Name
    · rw [if_pos h, decide_eq_true h, Bool.true_or]; simp only [List.length_cons]; exact decide_eq_true (by omega)
    · rw [if_neg h, decide_eq_false h, Bool.false_or, ← ih, List.length_cons]
      exact decide_eq_decide.2 (by rw [show k + (pre.length + 1) = k + 1 + pre.length by omega])
def fldC : List GField → List GField → Int
  | _, [] => 0
  | pre, f :: r => if nameB f.Name = false then 4 else if kindB f.Kind = false then 11 else if hasN pre f.Name = true then 21 else fldC (pre ++ [f]) r
def typC (t : GType) : Int := if nameB t.Name = false then 4 else if 6 < t.Fields.length then 5 else fldC [] t.Fields
theorem split_at {α : Type} {l : List α} {i : Nat} (h : i < l.length) : l = l.take i ++ l[i] :: l.drop (i + 1) := by
  rw [← drop_cons h, List.take_append_drop]
theorem tcheck_ok {t : GType} (h : t.Fields.length ≤ 1000) : m_schema_Type_check t = some (typC t) := by
  unfold m_schema_Type_check typC
  rw [name_ok, obind_some]
  cases nameB t.Name with
  | false => rfl
  | true =>
    rw [if_neg (by simp), Bool.not_true, cond_false]
    by_cases h6 : 6 < t.Fields.length
    · rw [d_lt (by omega), if_pos h6]; rfl
    · rw [d_nlt (by omega), if_neg h6, cond_false]
      have := loop1_0 (L := fun fu i => m_schema_Type_check_l3 t fu i) (n := t.Fields.length) (P := fun i o => o = some (fldC (t.Fields.take i) (t.Fields.drop i))) (by omega)
        (fun fu => by unfold m_schema_Type_check_l3; rw [d_nlt (by omega), List.drop_of_length_le (Nat.le_refl _)]; rfl)
        (fun fu i hi ih => by
          unfold m_schema_Type_check_l3
          obtain ⟨w, e1, _, e3⟩ := word_k t.Fields[i].Kind
          have e4 := fAt_pre (t.Fields.take i) t.Fields[i] (t.Fields.drop (i + 1)) 0
          rw [← split_at hi, List.length_take, Nat.min_eq_left (by omega), Nat.zero_add] at e4
          rw [d_lt (by omega), cond_true, geti_lt hi, obind_some, field_ok _ h, obind_some, name_ok, obind_some, e1, obind_some, e3, e4, inc_ok (by omega), ih, drop_cons hi, fldC, take_snoc hi]
          cases nameB t.Fields[i].Name with
          | false => rfl
          | true =>
            rw [if_neg (by simp), Bool.not_true, cond_false]
            cases kindB t.Fields[i].Kind with
            | false => rfl
            | true =>
              rw [if_neg (by simp), Bool.not_true, cond_false]
              cases hasN (t.Fields.take i) t.Fields[i].Name with
              | false => rfl
              | true => rfl)
      exact this
theorem rone_ok {t : GType} (h : t.Fields.length ≤ 1000) : m_r06_one t = some (typC t) := by
  unfold m_r06_one typC
  rw [rname_ok, obind_some]
  cases nameB t.Name with
  | false => rfl
  | true =>
    rw [if_neg (by simp), Bool.not_true, cond_false]
    by_cases h6 : 6 < t.Fields.length
    · rw [d_lt (by omega), if_pos h6]; rfl
    · rw [d_nlt (by omega), if_neg h6, cond_false]
      have := loop1_0 (L := fun fu i => m_r06_one_l2 t fu i) (n := t.Fields.length) (P := fun i o => o = some (fldC (t.Fields.take i) (t.Fields.drop i))) (by omega)
        (fun fu => by unfold m_r06_one_l2; rw [d_nlt (by omega), List.drop_of_length_le (Nat.le_refl _)]; rfl)
        (fun fu i hi ih => by
          unfold m_r06_one_l2
          obtain ⟨w, _, e1, e3⟩ := word_k t.Fields[i].Kind
          have hA : (t.Fields.take i).length = i := by rw [List.length_take]; omega
          have e4 : _ = if hasN (t.Fields.take i) t.Fields[i].Name = true then _ else _ := any_loop (L := fun fu2 j => m_r06_one_l7 t t.Fields[i] (i : Int) (fun y3_2 => m_r06_one_l2 t fu y3_2) fu2 j) (A := t.Fields.take i) (q := fun f => decide (f.Name = t.Fields[i].Name)) (y := some 21) (n := m_r06_one_l2 t fu ((i + 1 : Nat) : Int)) (by omega)
            (fun fu2 => by unfold m_r06_one_l7; rw [hA, d_nlt (by omega), cond_false, inc_ok (by omega)])
            (fun fu2 j hj => by
              conv => lhs; unfold m_r06_one_l7
              rw [d_lt (by omega), cond_true, geti_lt (by omega), obind_some, inc_ok (by omega), List.getElem_take]
              cases decide (t.Fields[j].Name = t.Fields[i].Name) <;> rfl)
          rw [d_lt (by omega), cond_true, geti_lt hi, obind_some, rname_ok, obind_some, e1, obind_some, e3, e4, ih, drop_cons hi, fldC, take_snoc hi]
          cases nameB t.Fields[i].Name with
          | false => rfl
          | true =>
            cases kindB t.Fields[i].Kind with
            | false => rfl
            | true =>
              cases hasN (t.Fields.take i) t.Fields[i].Name with
              | false => rfl
              | true => rfl)
      exact this
/-! ### lists of types -/
def hasT (l : List GType) (n : List UInt8) : Bool := l.any fun t => decide (t.Name = n)
def schL : List GType → List GType → Int
  | _, [] => 0
  | pre, t :: r => if typC t ≠ 0 then typC t else if hasT pre t.Name = true then 21 else schL (pre ++ [t]) r
def schC (l : List GType) : Int := if 8 < l.length then 5 else schL [] l
def fnd : List GType → List UInt8 → GType × Bool
  | [], _ => (GType.mk [] [], false)
  | t :: r, n => if t.Name = n then (t, true) else fnd r n
theorem fnd_2 (n : List UInt8) : ∀ l : List GType, (fnd l n).2 = hasT l n
  | [] => rfl
  | t :: r => by
    have ih := fnd_2 n r
    rw [fnd]; unfold hasT at ih ⊢
    rw [List.any_cons]
    by_cases h : t.Name = n
    · rw [if_pos h, decide_eq_true h, Bool.true_or]
    · rw [if_neg h, decide_eq_false h, Bool.false_or, ih]
theorem find_ok {l : List GType} (n : List UInt8) (h : l.length ≤ 1000) (hf : ∀ t ∈ l, t.Fields.length ≤ 1000) : m_schema_Find l n = some (fnd l n) := by
  unfold m_schema_Find
  have := loop1_0 (L := fun fu i => m_schema_Find_l1 l n fu i) (n := l.length) (P := fun i o => o = some (fnd (l.drop i) n)) (by omega)
    (fun fu => by unfold m_schema_Find_l1; rw [d_nlt (by omega), List.drop_of_length_le (Nat.le_refl _)]; rfl)
    (fun fu i hi ih => by
      have hfi := hf _ (List.getElem_mem hi)
      unfold m_schema_Find_l1 m_slices_Clone_Field
      rw [d_lt (by omega), cond_true, geti_lt hi, obind_some, inc_ok (by omega), ih, drop_cons hi, fnd, app_ok (by simp; omega), obind_some, obind_some, List.nil_append]
      by_cases hn : l[i].Name = n
      · rw [decide_eq_true hn, if_pos hn]; subst hn; rfl
      · rw [decide_eq_false hn, if_neg hn]; rfl)
  rw [List.drop_zero] at this; exact this
theorem rfind_ok {l : List GType} (n : List UInt8) (h : l.length ≤ 1000) : m_r06_Find l n = some (fnd l n) := by
  unfold m_r06_Find
  have := loop1_0 (L := fun fu i => m_r06_Find_l0 l n fu i) (n := l.length) (P := fun i o => o = some (fnd (l.drop i) n)) (by omega)
    (fun fu => by unfold m_r06_Find_l0; rw [d_nlt (by omega), List.drop_of_length_le (Nat.le_refl _)]; rfl)
    (fun fu i hi ih => by
      unfold m_r06_Find_l0
      rw [d_lt (by omega), cond_true, geti_lt hi, obind_some, inc_ok (by omega), ih, drop_cons hi, fnd]
      by_cases hn : l[i].Name = n
      · rw [decide_eq_true hn, if_pos hn]; rfl
      · rw [decide_eq_false hn, if_neg hn]; rfl)
  rw [List.drop_zero] at this; exact this
theorem scheck_ok {l : List GType} (h : l.length ≤ 1000) (hf : ∀ t ∈ l, t.Fields.length ≤ 1000) : m_schema_Check l = some (schC l) := by
  unfold m_schema_Check schC
  by_cases h8 : 8 < l.length
  · rw [d_lt (by omega), if_pos h8]; rfl
  · rw [d_nlt (by omega), if_neg h8, cond_false]
    have := loop1_0 (L := fun fu i => m_schema_Check_l2 l fu i) (n := l.length) (P := fun i o => o = some (schL (l.take i) (l.drop i))) (by omega)
      (fun fu => by unfold m_schema_Check_l2; rw [d_nlt (by omega), List.drop_of_length_le (Nat.le_refl _)]; rfl)
      (fun fu i hi ih => by
        have hfi := hf _ (List.getElem_mem hi)
        have hc : cut l 0 (i : Int) = some (l.take i) := by
          have := cut_ok (l := l) (a := 0) (b := i) (by omega) (by omega)
          rwa [List.drop_zero, Nat.sub_zero] at this
        unfold m_schema_Check_l2
        rw [d_lt (by omega), cond_true, geti_lt hi, obind_some, tcheck_ok hfi, obind_some, bind_of hc, find_ok _ (by rw [List.length_take]; omega) (fun t ht => hf t (List.mem_of_mem_take ht)), obind_some, fnd_2, inc_ok (by omega), ih, drop_cons hi, schL, take_snoc hi]
        by_cases h0 : typC l[i] ≠ 0
        · rw [decide_eq_true h0, if_pos h0]; rfl
        · rw [decide_eq_false h0, if_neg h0, cond_false]
          cases hasT (l.take i) l[i].Name with
          | false => rfl
          | true => rfl)
    exact this
theorem rscheck_ok {l : List GType} (h : l.length ≤ 1000) (hf : ∀ t ∈ l, t.Fields.length ≤ 1000) : m_r06_Check l = some (schC l) := by
  unfold m_r06_Check schC
  by_cases h8 : 8 < l.length
  · rw [d_lt (by omega), if_pos h8]; rfl
  · rw [d_nlt (by omega), if_neg h8, cond_false]
    have := loop1_0 (L := fun fu i => m_r06_Check_l1 l fu i) (n := l.length) (P := fun i o => o = some (schL (l.take i) (l.drop i))) (by omega)
      (fun fu => by unfold m_r06_Check_l1; rw [d_nlt (by omega), List.drop_of_length_le (Nat.le_refl _)]; rfl)
      (fun fu i hi ih => by
        have hfi := hf _ (List.getElem_mem hi)
        unfold m_r06_Check_l1
        have hA : (l.take i).length = i := by rw [List.length_take]; omega
        have e4 : _ = if hasT (l.take i) l[i].Name = true then _ else _ := any_loop (L := fun fu2 j => m_r06_Check_l4 l (i : Int) (fun y3_1 => m_r06_Check_l1 l fu y3_1) fu2 j) (A := l.take i) (q := fun t => decide (t.Name = l[i].Name)) (y := some 21) (n := m_r06_Check_l1 l fu ((i + 1 : Nat) : Int)) (by omega)
          (fun fu2 => by unfold m_r06_Check_l4; rw [hA, d_nlt (by omega), cond_false, inc_ok (by omega)])
          (fun fu2 j hj => by
            conv => lhs; unfold m_r06_Check_l4
            rw [d_lt (by omega), cond_true, geti_lt (by omega), obind_some, geti_lt hi, obind_some, inc_ok (by omega), List.getElem_take]
            cases decide (l[j].Name = l[i].Name) <;> rfl)
        rw [d_lt (by omega), cond_true, geti_lt hi, obind_some, rone_ok hfi, obind_some, e4, ih, drop_cons hi, schL, take_snoc hi]
        by_cases h0 : typC l[i] ≠ 0
        · rw [decide_eq_true h0, if_pos h0]; rfl
        · rw [decide_eq_false h0, if_neg h0, cond_false]
          cases hasT (l.take i) l[i].Name with
          | false => rfl
          | true => rfl)
    exact this
/-! ### values that fit -/
def fitL : List GField → List GValue → Int
  | _, [] => 0
  | [], _ :: _ => 0
  | f :: fs, v :: vs => if chkV v ≠ 0 then chkV v else if v.Kind.toNat ≠ f.Kind.toNat then 19 else fitL fs vs
def fitC (fs : List GField) (vs : List GValue) : Int := if vs.length ≠ fs.length then 5 else fitL fs vs
theorem fits_ok {t : GType} {vs : List GValue} (h : vs.length ≤ 1000) (hf : t.Fields.length ≤ 1000) (hb : ∀ v ∈ vs, u64B v.Bits) : m_schema_Fits t vs = some (fitC t.Fields vs) := by
  unfold m_schema_Fits fitC
  by_cases hl : vs.length ≠ t.Fields.length
  · rw [decide_eq_true (by omega), if_pos hl]; rfl
  · rw [decide_eq_false (by omega), if_neg hl, cond_false]
    have := loop1_0 (L := fun fu i => m_schema_Fits_l2 t vs fu i) (n := vs.length) (P := fun i o => o = some (fitL (t.Fields.drop i) (vs.drop i))) (by omega)
      (fun fu => by unfold m_schema_Fits_l2; rw [d_nlt (by omega), List.drop_of_length_le (Nat.le_refl _), List.drop_of_length_le (by omega)]; rfl)
      (fun fu i hi ih => by
        have hbi := hb _ (List.getElem_mem hi)
        have hi2 : i < t.Fields.length := by omega
        unfold m_schema_Fits_l2
        rw [d_lt (by omega), cond_true, geti_lt hi, obind_some, check_ok hbi, obind_some, geti_lt hi2, obind_some, inc_ok (by omega), ih, drop_cons hi, drop_cons hi2, fitL]
        by_cases h0 : chkV vs[i] ≠ 0
        · rw [decide_eq_true h0, if_pos h0]; rfl
        · rw [decide_eq_false h0, if_neg h0, cond_false]
          by_cases h1 : vs[i].Kind.toNat ≠ (t.Fields[i]'(by omega)).Kind.toNat
          · rw [decide_eq_true (by omega), if_pos h1]; rfl
          · rw [decide_eq_false (by omega), if_neg h1]; rfl)
    exact this
theorem rfits_ok {t : GType} {vs : List GValue} (h : vs.length ≤ 1000) (hf : t.Fields.length ≤ 1000) (hb : ∀ v ∈ vs, u64B v.Bits) : m_r06_Fits t vs = some (fitC t.Fields vs) := by
  unfold m_r06_Fits fitC
  by_cases hl : vs.length ≠ t.Fields.length
  · rw [decide_eq_true (by omega), if_pos hl]; rfl
  · rw [decide_eq_false (by omega), if_neg hl, cond_false]
    have := loop1_0 (L := fun fu i => m_r06_Fits_l1 t vs fu i) (n := vs.length) (P := fun i o => o = some (fitL (t.Fields.drop i) (vs.drop i))) (by omega)
      (fun fu => by unfold m_r06_Fits_l1; rw [d_nlt (by omega), List.drop_of_length_le (Nat.le_refl _), List.drop_of_length_le (by omega)]; rfl)
      (fun fu i hi ih => by
        have hbi := hb _ (List.getElem_mem hi)
        have hi2 : i < t.Fields.length := by omega
        unfold m_r06_Fits_l1
        rw [d_lt (by omega), cond_true, geti_lt hi, obind_some, rcheck_ok hbi, obind_some, obind_some, geti_lt hi2, obind_some, inc_ok (by omega), ih, drop_cons hi, drop_cons hi2, fitL]
        by_cases h0 : chkV vs[i] ≠ 0
        · rw [decide_eq_true h0, if_pos h0]; rfl
        · rw [decide_eq_false h0, if_neg h0, cond_false]
          by_cases h1 : vs[i].Kind.toNat ≠ (t.Fields[i]'(by omega)).Kind.toNat
          · rw [decide_eq_true (by omega), if_pos h1]; rfl
          · rw [decide_eq_false (by omega), if_neg h1]; rfl)
    exact this
end Go.Proofs.YtaaooafcijdbmaaDoor.K
namespace Go.Proofs.YtaaooafcijdbmaaDoor.K
open Go.RowKit Go.Lib
/-- A loop that lays f of each behind what there is, and goes on. -/
theorem map_loopK {α β R : Type} {L : Nat → List β → Int → Option R} {l : List α} {f : α → β} {K : List β → Option R} (hl : l.length ≤ 400000000)
    (hend : ∀ fu s, L (fu + 1) s (l.length : Int) = K s) (hstep : ∀ fu s i, (h : i < l.length) → s.length ≤ 400000000 → L (fu + 1) s (i : Int) = L fu (s ++ [f l[i]]) ((i + 1 : Nat) : Int)) : L 1152921504606846976 [] 0 = K (l.map f) := by
  have := loopG_0 (L := L) (n := l.length) (P := fun i s o => s.length = i → o = K (s ++ (l.drop i).map f)) (by omega) (fun fu s hs => by rw [hend]; simp) (fun fu s i hi ih hs => by
    rw [hstep fu s i hi (by omega), ih (s ++ [f l[i]]) (by simp [hs]), drop_cons hi, List.map_cons, List.append_assoc]; rfl) [] rfl
  simpa using this
/-- Short enough. -/
structure tyB (t : GType) : Prop where
  N : t.Name.length ≤ 40
  F : t.Fields.length ≤ 12
  M : ∀ f ∈ t.Fields, f.Name.length ≤ 40
structure tyM (t : GType) : Prop where
  N : t.Name.length ≤ maxLen
  F : t.Fields.length ≤ maxLen
  M : ∀ f ∈ t.Fields, f.Name.length ≤ maxLen
structure scB (l : List GType) : Prop where
  L : l.length ≤ 12
  T : ∀ t ∈ l, tyB t
theorem over06_ok {l : List GType} (hl : l.length ≤ maxLen) (hm : ∀ t ∈ l, tyM t) : ∃ r, m_w06_Over l = some r ∧ (r = 1 ∨ r = 0 ∧ scB l) := by
  unfold m_w06_Over
  have hl := maxLen_le hl
  by_cases h : 12 < l.length
  · rw [d_lt (by omega)]; exact ⟨1, rfl, .inl rfl⟩
  · rw [d_nlt (by omega), cond_false]
    have := loop1_0 (L := fun fu i => m_w06_Over_l1 l fu i) (n := l.length) (P := fun i o => ∃ r, o = some r ∧ (r = 1 ∨ r = 0 ∧ ∀ t ∈ l.drop i, tyB t)) (by omega)
      (fun fu => by unfold m_w06_Over_l1; rw [d_nlt (by omega)]; exact ⟨0, rfl, .inr ⟨rfl, by simp⟩⟩)
      (fun fu i hi ih => by
        have hmi := hm l[i] (List.getElem_mem hi)
        have h1 := maxLen_le hmi.N
        have h2 := maxLen_le hmi.F
        unfold m_w06_Over_l1
        rw [d_lt (by omega), cond_true, geti_lt hi, obind_some]
        by_cases ht : 40 < l[i].Name.length
        · rw [d_lt (by omega)]; exact ⟨1, rfl, .inl rfl⟩
        · rw [d_nlt (by omega), cond_false, obind_some]
          by_cases hv : 12 < l[i].Fields.length
          · rw [d_lt (by omega)]; exact ⟨1, rfl, .inl rfl⟩
          · rw [d_nlt (by omega), cond_false]
            have := loop1_0 (L := fun fu2 j => m_w06_Over_l4 l (i : Int) (fun y3_1 => m_w06_Over_l1 l fu y3_1) fu2 j) (n := l[i].Fields.length) (P := fun j o => (∀ f ∈ l[i].Fields.take j, f.Name.length ≤ 40) → ∃ r, o = some r ∧ (r = 1 ∨ r = 0 ∧ ∀ t ∈ l.drop i, tyB t)) (by omega)
              (fun fu2 hj => by
                unfold m_w06_Over_l4
                rw [geti_lt hi, obind_some, d_nlt (by omega), cond_false, inc_ok (by omega)]
                obtain ⟨r, e, q⟩ := ih
                refine ⟨r, e, q.imp id fun ⟨q1, q2⟩ => ⟨q1, ?_⟩⟩
                rw [drop_cons hi]
                intro e he
                rcases List.mem_cons.1 he with rfl | he
                · exact ⟨by omega, by omega, by rw [List.take_of_length_le (Nat.le_refl _)] at hj; exact hj⟩
                · exact q2 e he)
              (fun fu2 j hj ih2 hq => by
                unfold m_w06_Over_l4
                have hvm := hmi.M _ (List.getElem_mem hj)
                have hvl := maxLen_le hvm
                rw [geti_lt hi, obind_some, d_lt (by omega), cond_true, obind_some, geti_lt hj, obind_some]
                by_cases hs : 40 < l[i].Fields[j].Name.length
                · rw [d_lt (by omega)]; exact ⟨1, rfl, .inl rfl⟩
                · rw [d_nlt (by omega), cond_false, inc_ok (by omega)]
                  refine ih2 fun v hv => ?_
                  rw [take_snoc hj] at hv
                  rcases List.mem_append.1 hv with hv | hv
                  · exact hq v hv
                  · simp only [List.mem_singleton] at hv; subst hv; omega)
            exact this (by simp))
    obtain ⟨r, e, q⟩ := this
    exact ⟨r, e, q.imp id fun ⟨q1, q2⟩ => ⟨q1, ⟨by omega, by simpa using q2⟩⟩⟩
theorem own06_ok {l : List GType} (h : scB l) : m_w06_Own l = some l := by
  have hl := h.L
  have := map_loop (L := fun fu s i => m_w06_Own_l0 l fu s i) (l := l) (f := id) (e := id) (by omega) (fun fu s => by unfold m_w06_Own_l0; rw [d_nlt (by omega)]; rfl)
    (fun fu s i hi hs => by
      have hf := (h.T _ (List.getElem_mem hi)).F
      conv => lhs; unfold m_w06_Own_l0
      rw [d_lt (by omega), cond_true, geti_lt hi, obind_some]
      have := map_loopK (L := fun fu2 s2 j => m_w06_Own_l3 l l[i] s (i : Int) (fun y3_0 y4_0 => m_w06_Own_l0 l fu y3_0 y4_0) fu2 s2 j) (l := l[i].Fields) (f := id) (K := fun s2 => m_w06_Own_l0 l fu (s ++ [GType.mk l[i].Name s2]) ((i + 1 : Nat) : Int)) (by omega)
        (fun fu2 s2 => by
          unfold m_w06_Own_l3
          rw [geti_lt hi, obind_some, d_nlt (by omega), cond_false, app_ok (by simp; omega), obind_some, inc_ok (by omega)])
        (fun fu2 s2 j hj hs2 => by
          conv => lhs; unfold m_w06_Own_l3
          rw [geti_lt hi, obind_some, d_lt (by omega), cond_true, obind_some, geti_lt hj, obind_some, app_ok (by simp; omega), obind_some, inc_ok (by omega)]; rfl)
      rw [List.map_id] at this
      exact this)
  rw [List.map_id] at this; exact this
end Go.Proofs.YtaaooafcijdbmaaDoor.K
namespace Go.Proofs.YtaaooafcijdbmaaDoor.K
open Go.RowKit Go.Lib
theorem back_ok {e : GEvent} (h : e.Vals.length ≤ 400000000) : m_w07_Back e = some e := by
  have := map_loop (L := fun fu s i => m_w07_Back_l0 e fu s i) (l := e.Vals) (f := id) (e := fun s => GEvent.mk e.Time e.Source e.Seq e.Type_ s) h (fun fu s => by unfold m_w07_Back_l0; rw [d_nlt (by omega)]; rfl)
    (fun fu s i h hs => by
      conv => lhs; unfold m_w07_Back_l0
      rw [d_lt (by omega), cond_true, geti_lt h, obind_some, app_ok (by simp; omega), obind_some, inc_ok (by omega)]; rfl)
  rw [List.map_id] at this; exact this
end Go.Proofs.YtaaooafcijdbmaaDoor.K
namespace Go.Proofs.YtaaooafcijdbmaaDoor.K
open Go.RowKit Go.Lib
/-- An event's parts, as a law lays them. -/
structure evO (e : GEvent) : Prop where
  T : -9223372036854775808 ≤ e.Time ∧ e.Time ≤ 9223372036854775807
  S : -9223372036854775808 ≤ e.Source ∧ e.Source ≤ 9223372036854775807
  Q : -9223372036854775808 ≤ e.Seq ∧ e.Seq ≤ 9223372036854775807
  L : e.Vals.length ≤ 12
  V : ∀ v ∈ e.Vals, okB v
structure mayB (e : GEvent) : Prop where
  T : 0 ≤ e.Time ∧ e.Time ≤ 1099511627776
  S : 0 ≤ e.Source ∧ e.Source < 16
  Q : 0 ≤ e.Seq ∧ e.Seq ≤ 1099511627776
instance (e : GEvent) : Decidable (mayB e) := decidable_of_iff ((0 ≤ e.Time ∧ e.Time ≤ 1099511627776) ∧ (0 ≤ e.Source ∧ e.Source < 16) ∧ (0 ≤ e.Seq ∧ e.Seq ≤ 1099511627776)) ⟨fun ⟨a, b, c⟩ => ⟨a, b, c⟩, fun ⟨a, b, c⟩ => ⟨a, b, c⟩⟩
theorem may_ok (e : GEvent) : m_event_ID_may (GID.mk e.Time e.Source e.Seq) = some (decide (mayB e)) := by
  unfold m_event_ID_may
  simp only
  by_cases h1 : 0 ≤ e.Time
  · rw [decide_eq_true h1, cond_true]
    by_cases h2 : e.Time ≤ 1099511627776
    · rw [decide_eq_true h2, cond_true]
      by_cases h3 : 0 ≤ e.Source
      · rw [decide_eq_true h3, cond_true]
        by_cases h4 : e.Source < 16
        · rw [decide_eq_true h4, cond_true]
          by_cases h5 : 0 ≤ e.Seq
          · rw [decide_eq_true h5, cond_true]
            congr 1
            exact decide_eq_decide.2 ⟨fun h => ⟨⟨h1, h2⟩, ⟨h3, h4⟩, ⟨h5, h⟩⟩, fun h => h.Q.2⟩
          · rw [decide_eq_false h5, decide_eq_false (fun h : mayB e => h5 h.Q.1)]; rfl
        · rw [decide_eq_false h4, decide_eq_false (fun h : mayB e => h4 h.S.2)]; rfl
      · rw [decide_eq_false h3, decide_eq_false (fun h : mayB e => h3 h.S.1)]; rfl
    · rw [decide_eq_false h2, decide_eq_false (fun h : mayB e => h2 h.T.2)]; rfl
  · rw [decide_eq_false h1, decide_eq_false (fun h : mayB e => h1 h.T.1)]; rfl
def evC (p : List GType) (e : GEvent) : Int :=
  if schC p ≠ 0 then 2 else if ¬ mayB e then 8 else if (fnd p e.Type_).2 = false then 6 else fitC (fnd p e.Type_).1.Fields e.Vals
theorem fnd_F {k : Nat} (n : List UInt8) : ∀ {l : List GType}, (∀ t ∈ l, t.Fields.length ≤ k) → (fnd l n).1.Fields.length ≤ k
  | [], _ => by simp [fnd]
  | t :: r, h => by
    rw [fnd]
    split
    · exact h t (by simp)
    · exact fnd_F n fun t ht => h t (by simp [ht])
theorem scB.F {p : List GType} (h : scB p) : ∀ t ∈ p, t.Fields.length ≤ 1000 := fun t ht => by have := (h.T t ht).F; omega
theorem scB.L' {p : List GType} (h : scB p) : p.length ≤ 1000 := by have := h.L; omega
theorem echeck_ok {p : List GType} {e : GEvent} (hp : scB p) (he : evO e) : m_event_Check p e = some (evC p e) := by
  unfold m_event_Check m_event_Event_ID evC
  have hL := he.L
  rw [scheck_ok hp.L' hp.F, obind_some, obind_some, may_ok, obind_some, find_ok _ hp.L' hp.F, obind_some, fits_ok (by omega) (fnd_F _ hp.F) (fun v hv => (he.V v hv).B), obind_some]
  by_cases h1 : schC p ≠ 0
  · rw [decide_eq_true h1, if_pos h1]; rfl
  · rw [decide_eq_false h1, if_neg h1, cond_false]
    by_cases h2 : mayB e
    · rw [decide_eq_true h2, if_neg (by simp [h2])]
      cases (fnd p e.Type_).2 <;> rfl
    · rw [decide_eq_false h2, if_pos h2]; rfl
theorem recheck_ok {p : List GType} {e : GEvent} (hp : scB p) (he : evO e) : m_r07_Check p e = some (evC p e) := by
  unfold m_r07_Check m_r07_Check_j2 evC
  have hL := he.L
  rw [rscheck_ok hp.L' hp.F, obind_some, rfind_ok _ hp.L', obind_some, rfits_ok (by omega) (fnd_F _ hp.F) (fun v hv => (he.V v hv).B), obind_some]
  by_cases h1 : schC p ≠ 0
  · rw [decide_eq_true h1, if_pos h1]; rfl
  · rw [decide_eq_false h1, if_neg h1, cond_false]
    by_cases h2 : mayB e
    · have a := h2.T; have b := h2.S; have c := h2.Q
      rw [if_neg (by simp [h2]), decide_eq_false (by omega), cond_false, decide_eq_false (by omega), cond_false, decide_eq_false (by omega), cond_false, decide_eq_false (by omega), cond_false, decide_eq_false (by omega), cond_false, decide_eq_false (by omega), cond_false]
      cases (fnd p e.Type_).2 <;> rfl
    · rw [if_pos h2]
      by_cases c1 : e.Time < 0
      · rw [decide_eq_true c1]; rfl
      rw [decide_eq_false c1, cond_false]
      by_cases c2 : (1099511627776 : Int) < e.Time
      · rw [decide_eq_true c2]; rfl
      rw [decide_eq_false c2, cond_false]
      by_cases c3 : e.Source < 0
      · rw [decide_eq_true c3]; rfl
      rw [decide_eq_false c3, cond_false]
      by_cases c4 : 16 ≤ e.Source
      · rw [decide_eq_true c4]; rfl
      rw [decide_eq_false c4, cond_false]
      by_cases c5 : e.Seq < 0
      · rw [decide_eq_true c5]; rfl
      rw [decide_eq_false c5, cond_false]
      by_cases c6 : (1099511627776 : Int) < e.Seq
      · rw [decide_eq_true c6]; rfl
      exact absurd ⟨⟨by omega, by omega⟩, ⟨by omega, by omega⟩, ⟨by omega, by omega⟩⟩ h2
/-! ### the place of a type -/
def plc : List GType → List UInt8 → Nat → Int
  | [], _, _ => -1
  | t :: r, n, i => if t.Name = n then (i : Int) else plc r n (i + 1)
/-! ### bytes -/
def valsB (l : List GValue) : List UInt8 := l.flatMap fun v => v.Kind :: bytesV v
def headB (p : List GType) (e : GEvent) : List UInt8 := zb e.Time.toNat ++ zb e.Source.toNat ++ zb e.Seq.toNat ++ zb (plc p e.Type_ 0).toNat
def evB' (p : List GType) (e : GEvent) : List UInt8 := headB p e ++ valsB e.Vals
theorem fitL_zero : ∀ {fs : List GField} {vs : List GValue}, vs.length ≤ fs.length → fitL fs vs = 0 → ∀ v ∈ vs, chkV v = 0
  | _, [], _, _ => by simp
  | [], v :: vs, h, _ => by simp at h
  | f :: fs, v :: vs, h, hf => by
    rw [fitL] at hf
    by_cases h0 : chkV v = 0
    · rw [if_neg (by simp [h0])] at hf
      split at hf
      · cases hf
      · intro x hx
        rcases List.mem_cons.1 hx with rfl | hx
        · exact h0
        · exact fitL_zero (by simpa using h) hf x hx
    · rw [if_pos h0] at hf; exact absurd hf h0
structure evGood (p : List GType) (e : GEvent) : Prop where
  C : schC p = 0
  M : mayB e
  H : hasT p e.Type_ = true
  F : e.Vals.length = (fnd p e.Type_).1.Fields.length
  I : fitL (fnd p e.Type_).1.Fields e.Vals = 0
theorem evC_zero {p : List GType} {e : GEvent} (h : evC p e = 0) : evGood p e := by
  unfold evC at h
  split at h
  · cases h
  · rename_i h1
    split at h
    · cases h
    · rename_i h2
      split at h
      · cases h
      · rename_i h3
        unfold fitC at h
        split at h
        · cases h
        · rename_i h4
          exact ⟨by omega, by simpa using h2, by rw [← fnd_2]; simpa using h3, by omega, h⟩
theorem evGood.zero {p : List GType} {e : GEvent} (h : evGood p e) : evC p e = 0 := by
  unfold evC fitC
  rw [if_neg (by simp [h.C]), if_neg (by simp [h.M]), if_neg (by rw [fnd_2, h.H]; simp), if_neg (by simp [h.F]), h.I]
theorem evGood.V {p : List GType} {e : GEvent} (h : evGood p e) : ∀ v ∈ e.Vals, chkV v = 0 := fitL_zero (by have := h.F; omega) h.I
/-! ### a value by its name -/
end Go.Proofs.YtaaooafcijdbmaaDoor.K
namespace Go.Proofs.YtaaooafcijdbmaaDoor.K
open Go.RowKit Go.Lib
theorem wf_tyM {t : GType} (h : wf_GType t) : tyM t := ⟨h.Name, h.Fields.1, fun f hf => (h.Fields.2 f hf).Name⟩
end Go.Proofs.YtaaooafcijdbmaaDoor.K

namespace Go.Proofs.YtaaooafcijdbmaaDoor.K
open Go.RowKit Go.Lib
abbrev zeroE : GEvent := GEvent.mk 0 0 0 [] []
/-- Four numbers, one behind the other. -/
def tk4 (l : List UInt8) (a : Int) : Nat ⊕ (Nat × Nat × Nat × Nat × Nat) :=
  if (ztk l a).2.2 ≠ 0 then .inl (ztk l a).2.2 else
  if (ztk l ((ztk l a).2.1 : Int)).2.2 ≠ 0 then .inl (ztk l ((ztk l a).2.1 : Int)).2.2 else
  if (ztk l ((ztk l ((ztk l a).2.1 : Int)).2.1 : Int)).2.2 ≠ 0 then .inl (ztk l ((ztk l ((ztk l a).2.1 : Int)).2.1 : Int)).2.2 else
  if (ztk l ((ztk l ((ztk l ((ztk l a).2.1 : Int)).2.1 : Int)).2.1 : Int)).2.2 ≠ 0 then .inl (ztk l ((ztk l ((ztk l ((ztk l a).2.1 : Int)).2.1 : Int)).2.1 : Int)).2.2 else
  .inr ((ztk l a).1, (ztk l ((ztk l a).2.1 : Int)).1, (ztk l ((ztk l ((ztk l a).2.1 : Int)).2.1 : Int)).1, (ztk l ((ztk l ((ztk l ((ztk l a).2.1 : Int)).2.1 : Int)).2.1 : Int)).1, (ztk l ((ztk l ((ztk l ((ztk l a).2.1 : Int)).2.1 : Int)).2.1 : Int)).2.1)
section
variable {l : List UInt8} (hl : l.length ≤ 1000000)
include hl
theorem nst_0 (fu : Nat) (a : Int) (A : GArr4_Int_) : m_event_numbers_l0 l (fu + 1) a A 0 = if (ztk l a).2.2 ≠ 0 then some (A, 0, (((ztk l a).2.2 : Nat) : Int)) else m_event_numbers_l0 l fu (((ztk l a).2.1 : Nat) : Int) (GArr4_Int_.mk (((ztk l a).1 : Nat) : Int) A.a1 A.a2 A.a3) 1 := by
  conv => lhs; unfold m_event_numbers_l0
  rw [decide_eq_true (by decide), cond_true, take_ok hl, obind_some]
  unfold ztkI
  by_cases h : (ztk l a).2.2 ≠ 0
  · rw [decide_eq_true (by simpa using h), if_pos h]; rfl
  · rw [decide_eq_false (by simpa using h), if_neg h]; rfl
theorem nst_1 (fu : Nat) (a : Int) (A : GArr4_Int_) : m_event_numbers_l0 l (fu + 1) a A 1 = if (ztk l a).2.2 ≠ 0 then some (A, 0, (((ztk l a).2.2 : Nat) : Int)) else m_event_numbers_l0 l fu (((ztk l a).2.1 : Nat) : Int) (GArr4_Int_.mk A.a0 (((ztk l a).1 : Nat) : Int) A.a2 A.a3) 2 := by
  conv => lhs; unfold m_event_numbers_l0
  rw [decide_eq_true (by decide), cond_true, take_ok hl, obind_some]
  unfold ztkI
  by_cases h : (ztk l a).2.2 ≠ 0
  · rw [decide_eq_true (by simpa using h), if_pos h]; rfl
  · rw [decide_eq_false (by simpa using h), if_neg h]; rfl
theorem nst_2 (fu : Nat) (a : Int) (A : GArr4_Int_) : m_event_numbers_l0 l (fu + 1) a A 2 = if (ztk l a).2.2 ≠ 0 then some (A, 0, (((ztk l a).2.2 : Nat) : Int)) else m_event_numbers_l0 l fu (((ztk l a).2.1 : Nat) : Int) (GArr4_Int_.mk A.a0 A.a1 (((ztk l a).1 : Nat) : Int) A.a3) 3 := by
  conv => lhs; unfold m_event_numbers_l0
  rw [decide_eq_true (by decide), cond_true, take_ok hl, obind_some]
  unfold ztkI
  by_cases h : (ztk l a).2.2 ≠ 0
  · rw [decide_eq_true (by simpa using h), if_pos h]; rfl
  · rw [decide_eq_false (by simpa using h), if_neg h]; rfl
theorem nst_3 (fu : Nat) (a : Int) (A : GArr4_Int_) : m_event_numbers_l0 l (fu + 1) a A 3 = if (ztk l a).2.2 ≠ 0 then some (A, 0, (((ztk l a).2.2 : Nat) : Int)) else m_event_numbers_l0 l fu (((ztk l a).2.1 : Nat) : Int) (GArr4_Int_.mk A.a0 A.a1 A.a2 (((ztk l a).1 : Nat) : Int)) 4 := by
  conv => lhs; unfold m_event_numbers_l0
  rw [decide_eq_true (by decide), cond_true, take_ok hl, obind_some]
  unfold ztkI
  by_cases h : (ztk l a).2.2 ≠ 0
  · rw [decide_eq_true (by simpa using h), if_pos h]; rfl
  · rw [decide_eq_false (by simpa using h), if_neg h]; rfl
omit hl in
theorem nst_4 (fu : Nat) (a : Int) (A : GArr4_Int_) : m_event_numbers_l0 l (fu + 1) a A 4 = some (A, a, 0) := by
  unfold m_event_numbers_l0; rfl
theorem numbers_ok (a : Int) : match tk4 l a with
    | .inl e => ∃ A, m_event_numbers l a = some (A, 0, (e : Int)) ∧ e ≠ 0
    | .inr (n0, n1, n2, n3, b) => m_event_numbers l a = some (GArr4_Int_.mk n0 n1 n2 n3, (b : Int), 0) := by
  unfold m_event_numbers tk4
  rw [show (1152921504606846976 : Nat) = 1152921504606846971 + 1 + 1 + 1 + 1 + 1 from rfl, nst_0 hl]
  by_cases h0 : (ztk l a).2.2 ≠ 0
  · rw [if_pos h0, if_pos h0]; exact ⟨_, rfl, h0⟩
  rw [if_neg h0, if_neg h0, nst_1 hl]
  generalize (((ztk l a).2.1 : Nat) : Int) = a1
  by_cases h1 : (ztk l a1).2.2 ≠ 0
  · rw [if_pos h1, if_pos h1]; exact ⟨_, rfl, h1⟩
  rw [if_neg h1, if_neg h1, nst_2 hl]
  generalize (((ztk l a1).2.1 : Nat) : Int) = a2
  by_cases h2 : (ztk l a2).2.2 ≠ 0
  · rw [if_pos h2, if_pos h2]; exact ⟨_, rfl, h2⟩
  rw [if_neg h2, if_neg h2, nst_3 hl]
  generalize (((ztk l a2).2.1 : Nat) : Int) = a3
  by_cases h3 : (ztk l a3).2.2 ≠ 0
  · rw [if_pos h3, if_pos h3]; exact ⟨_, rfl, h3⟩
  rw [if_neg h3, if_neg h3, nst_4]
end
/-- Values, one behind the other. -/
def valsT (l : List UInt8) : Nat → Int → List GValue → Int ⊕ (List GValue × Int)
  | 0, a, vs => .inr (vs, a)
  | k + 1, a, vs => if (vtk l a).2.2 ≠ 0 then .inl (vtk l a).2.2 else valsT l k (vtk l a).2.1 (vs ++ [(vtk l a).1])
theorem vals_loop {R : Type} {l : List UInt8} {L : Nat → List GValue → Int → Int → Option R} {n : Nat} {E : Int → Option R} {K : List GValue → Int → Option R}
    (hend : ∀ fu vs a, L (fu + 1) vs a (n : Int) = K vs a)
    (hstep : ∀ fu vs a (i : Nat), i < n → vs.length ≤ n → L (fu + 1) vs a (i : Int) = if (vtk l a).2.2 ≠ 0 then E (vtk l a).2.2 else L fu (vs ++ [(vtk l a).1]) (vtk l a).2.1 ((i + 1 : Nat) : Int)) :
    ∀ (k i fu : Nat) (vs : List GValue) (a : Int), i + k = n → vs.length = i → k < fu → L fu vs a (i : Int) = match valsT l k a vs with | .inl e => E e | .inr (vs', b) => K vs' b
  | _, _, 0, _, _, _, _, h => by omega
  | 0, i, fu + 1, vs, a, h1, _, _ => by
    obtain rfl : i = n := by omega
    rw [hend]; rfl
  | k + 1, i, fu + 1, vs, a, h1, h2, h3 => by
    rw [hstep fu vs a i (by omega) (by omega), valsT]
    by_cases h : (vtk l a).2.2 ≠ 0
    · rw [if_pos h, if_pos h]
    · rw [if_neg h, if_neg h, vals_loop hend hstep k (i + 1) fu _ _ (by omega) (by simp [h2]) (by omega)]
def num40 (n : Nat) : Int := if 1099511627776 < n then -1 else (n : Int)
def num15 (n : Nat) : Int := if 15 < n then -1 else (n : Int)
def etk (p : List GType) (l : List UInt8) (a : Int) : GEvent × Int × Int :=
  if schC p ≠ 0 ∨ a < 0 ∨ (l.length : Int) < a then (zeroE, 0, 2) else match tk4 l a with
    | .inl e => (zeroE, 0, (e : Int))
    | .inr (n0, n1, n2, n3, b) => match p[n3]? with
      | none => (zeroE, 0, 6)
      | some t => match valsT l t.Fields.length (b : Int) [] with
        | .inl e => (zeroE, 0, e)
        | .inr (vs, c) => if evC p (GEvent.mk (num40 n0) (num15 n1) (num40 n2) t.Name vs) ≠ 0 then (zeroE, 0, evC p (GEvent.mk (num40 n0) (num15 n1) (num40 n2) t.Name vs)) else (GEvent.mk (num40 n0) (num15 n1) (num40 n2) t.Name vs, c, 0)
theorem vtk_good {l : List UInt8} {a : Int} (hl : l.length ≤ 100000) (h : (vtk l a).2.2 = 0) : okB (vtk l a).1 ∧ chkV (vtk l a).1 = 0 ∧ ∃ m k : Nat, a = m ∧ m + k ≤ l.length ∧ (vtk l a).2.1 = ((m + k : Nat) : Int) ∧ (vtk l a).1.Kind :: bytesV (vtk l a).1 = (l.drop m).take k := by
  by_cases ha : a < 0 ∨ (l.length : Int) < a
  · exfalso; unfold vtk at h; rw [if_pos ha] at h; simp at h
  · obtain ⟨m, rfl⟩ : ∃ m : Nat, a = m := ⟨a.toNat, by omega⟩
    have e := vtk_drop (l := l) (a := m) (by omega)
    rw [e] at h ⊢
    simp only at h ⊢
    generalize hx : vtk (l.drop m) 0 = x at h e ⊢
    obtain ⟨x, n, er⟩ := x
    simp only at h ⊢
    subst h
    obtain ⟨c, ok, k, rfl, hk, hb⟩ := take_put (by rw [List.length_drop]; omega) hx
    rw [List.length_drop] at hk
    exact ⟨ok, c, m, k, rfl, by omega, by rw [if_pos rfl]; omega, hb⟩
theorem valsT_good {l : List UInt8} (hl : l.length ≤ 100000) : ∀ (k : Nat) (a : Int) (vs vs' : List GValue) (b : Int), valsT l k a vs = .inr (vs', b) → (∀ v ∈ vs, okB v ∧ chkV v = 0) → vs'.length = vs.length + k ∧ ∀ v ∈ vs', okB v ∧ chkV v = 0
  | 0, a, vs, vs', b, h, hv => by
    rw [valsT] at h; cases h; exact ⟨rfl, hv⟩
  | k + 1, a, vs, vs', b, h, hv => by
    rw [valsT] at h
    by_cases h0 : (vtk l a).2.2 ≠ 0
    · rw [if_pos h0] at h; cases h
    · rw [if_neg h0] at h
      obtain ⟨o, c, _⟩ := vtk_good hl (by omega : (vtk l a).2.2 = 0)
      obtain ⟨q1, q2⟩ := valsT_good hl k _ _ vs' b h fun v hv' => by
        rcases List.mem_append.1 hv' with h1 | h1
        · exact hv v h1
        · simp only [List.mem_singleton] at h1; subst h1; exact ⟨o, c⟩
      exact ⟨by rw [q1]; simp; omega, q2⟩
theorem valsT_err {l : List UInt8} : ∀ (k : Nat) (a : Int) (vs : List GValue), valsT l k a vs ≠ .inl 0
  | 0, a, vs => by rw [valsT]; exact fun h => by cases h
  | k + 1, a, vs => by
    rw [valsT]
    split
    · rename_i h; exact fun q => h (Sum.inl.inj q)
    · exact valsT_err k _ _
theorem tk4_lt {l : List UInt8} {a : Int} {n0 n1 n2 n3 b : Nat} (h : tk4 l a = .inr (n0, n1, n2, n3, b)) : n0 < 18446744073709551616 ∧ n1 < 18446744073709551616 ∧ n2 < 18446744073709551616 ∧ n3 < 18446744073709551616 := by
  unfold tk4 at h
  split at h
  · cases h
  split at h
  · cases h
  split at h
  · cases h
  split at h
  · cases h
  cases h
  exact ⟨ztk_lt _ _, ztk_lt _ _, ztk_lt _ _, ztk_lt _ _⟩
theorem num40_r (n : Nat) : -1 ≤ num40 n ∧ num40 n ≤ 1099511627776 := by unfold num40; split <;> omega
theorem num15_r (n : Nat) : -1 ≤ num15 n ∧ num15 n ≤ 15 := by unfold num15; split <;> omega
theorem tk_evO {n0 n1 n2 : Nat} {t : List UInt8} {vs : List GValue} (h1 : vs.length ≤ 12) (h2 : ∀ v ∈ vs, okB v) : evO (GEvent.mk (num40 n0) (num15 n1) (num40 n2) t vs) := by
  have := num40_r n0; have := num15_r n1; have := num40_r n2
  exact ⟨by simp only; omega, by simp only; omega, by simp only; omega, h1, h2⟩
theorem number_ok {n : Nat} (h : n < 18446744073709551616) : m_event_number (n : Int) 1099511627776 = some (num40 n) ∧ m_event_number (n : Int) 15 = some (num15 n) := by
  unfold m_event_number num40 num15
  rw [wu64, wu64]
  refine ⟨?_, ?_⟩
  · by_cases c : 1099511627776 < n
    · rw [decide_eq_true (by omega), if_pos c]; rfl
    · rw [decide_eq_false (by omega), if_neg c, cond_false, w64 (by omega) (by omega)]
  · by_cases c : 15 < n
    · rw [decide_eq_true (by omega), if_pos c]; rfl
    · rw [decide_eq_false (by omega), if_neg c, cond_false, w64 (by omega) (by omega)]
theorem etake_ok {p : List GType} {l : List UInt8} (a : Int) (hl : l.length ≤ 100000) (hp : scB p) : m_event_Take p l a = some (etk p l a) := by
  unfold m_event_Take m_event_Take_j1 etk
  have hL := hp.L
  rw [scheck_ok hp.L' hp.F, obind_some]
  by_cases h1 : schC p ≠ 0
  · rw [decide_eq_true h1, if_pos (.inl h1)]; rfl
  rw [decide_eq_false h1, cond_false]
  by_cases h2 : a < 0
  · rw [decide_eq_true h2, if_pos (.inr (.inl h2))]; rfl
  rw [decide_eq_false h2, cond_false]
  by_cases h3 : (l.length : Int) < a
  · rw [decide_eq_true h3, if_pos (.inr (.inr h3))]; rfl
  rw [decide_eq_false h3, cond_false, if_neg (by omega)]
  have hn := numbers_ok (l := l) (by omega) a
  cases ht : tk4 l a with
  | inl e =>
    rw [ht] at hn
    obtain ⟨A, e1, e2⟩ := hn
    rw [e1, obind_some, decide_eq_true (by simp only; omega)]; rfl
  | inr q =>
    obtain ⟨n0, n1, n2, n3, b⟩ := q
    rw [ht] at hn
    obtain ⟨b0, b1, b2, b3⟩ := tk4_lt ht
    simp only at hn ⊢
    rw [hn, obind_some, decide_eq_false (by simp), cond_false]
    simp only
    rw [wu64, Int.emod_eq_of_lt (by omega) (by omega)]
    by_cases h4 : p.length ≤ n3
    · rw [decide_eq_true (by omega), List.getElem?_eq_none h4]; rfl
    have h4 : n3 < p.length := by omega
    have hF := (hp.T _ (List.getElem_mem h4)).F
    rw [decide_eq_false (by omega), cond_false, List.getElem?_eq_getElem h4, geti_lt h4, obind_some, (number_ok b0).1, obind_some, (number_ok b1).2, obind_some, (number_ok b2).1, obind_some]
    simp only
    have hvl := vals_loop (l := l) (L := fun fu vs a i => m_event_Take_l7 p l (num40 n0) (num15 n1) (num40 n2) p[n3] fu vs a i) (n := p[n3].Fields.length) (E := fun e => some (zeroE, 0, e))
      (K := fun vs c => Option.bind (m_event_Check p (GEvent.mk (num40 n0) (num15 n1) (num40 n2) p[n3].Name vs)) fun r => cond (decide (r ≠ 0)) (some (zeroE, 0, r)) (some (GEvent.mk (num40 n0) (num15 n1) (num40 n2) p[n3].Name vs, c, 0)))
      (fun fu vs a => by unfold m_event_Take_l7; rw [d_nlt (by omega)]; rfl)
      (fun fu vs a i hi hvs => by
        conv => lhs; unfold m_event_Take_l7
        rw [d_lt (by omega), cond_true, vtake_ok (by omega), obind_some, app_ok (by simp; omega), obind_some, inc_ok (by omega)]
        by_cases h : (vtk l a).2.2 ≠ 0
        · rw [decide_eq_true h, if_pos h]; rfl
        · rw [decide_eq_false h, if_neg h]; rfl) p[n3].Fields.length 0 1152921504606846976 [] (b : Int) (by omega) rfl (by omega)
    refine Eq.trans hvl ?_
    cases hv : valsT l p[n3].Fields.length (b : Int) [] with
    | inl e => rfl
    | inr q =>
      obtain ⟨vs, c⟩ := q
      obtain ⟨g1, g2⟩ := valsT_good hl _ _ _ _ _ hv (by simp)
      simp only at g1 ⊢
      rw [echeck_ok hp (tk_evO (by rw [g1]; simp; omega) fun v hv => (g2 v hv).1), obind_some]
      split
      · rename_i h; rw [decide_eq_true h]; rfl
      · rename_i h; rw [decide_eq_false h]; rfl
/-! ### the mirror -/
theorem rst {p : List GType} {l : List UInt8} (hl : l.length ≤ 1000000) (fu i : Nat) (a : Int) (ns : List Int) (hi : i < 4) (hns : ns.length ≤ 4) : m_r07_Take_l2 p l (fu + 1) a ns (i : Int) =
    if (ztk l a).2.2 ≠ 0 then some (zeroE, 0, (((ztk l a).2.2 : Nat) : Int)) else m_r07_Take_l2 p l fu (((ztk l a).2.1 : Nat) : Int) (ns ++ [(((ztk l a).1 : Nat) : Int)]) ((i + 1 : Nat) : Int) := by
  conv => lhs; unfold m_r07_Take_l2
  rw [decide_eq_true (by omega), cond_true, rtake_ok hl, obind_some, app_ok (by simp; omega), obind_some, inc_ok (by omega)]
  unfold ztkI
  by_cases h : (ztk l a).2.2 ≠ 0
  · rw [decide_eq_true (by simpa using h), if_pos h]; rfl
  · rw [decide_eq_false (by simpa using h), if_neg h]; rfl
theorem rend_ok {p : List GType} {n0 n1 n2 : Nat} {t : GType} {vs : List GValue} {c : Int} (hp : scB p) (hs : schC p = 0) (h1 : vs.length ≤ 12) (h2 : ∀ v ∈ vs, okB v) (b0 : n0 < 18446744073709551616) (b1 : n1 < 18446744073709551616) (b2 : n2 < 18446744073709551616) {ns : List Int} (g0 : geti ns 0 = some (n0 : Int)) (g1 : geti ns 1 = some (n1 : Int)) (g2 : geti ns 2 = some (n2 : Int)) :
    (Option.bind (geti ns 0) fun x99_11 =>
    cond (decide (x99_11 ≤ 1099511627776))
    (Option.bind (geti ns 1) fun x104_11 =>
    cond (decide (x104_11 < 16))
    (Option.bind (geti ns 2) fun x110_11 =>
    cond (decide (x110_11 ≤ 1099511627776))
    (Option.bind (geti ns 0) fun x115_13 =>
    Option.bind (geti ns 1) fun x119_13 =>
    Option.bind (geti ns 2) fun x123_13 =>
    m_r07_Take_j14 p t vs c (IntKind.i64.wrap x115_13) (IntKind.i64.wrap x119_13) (IntKind.i64.wrap x123_13))
    (m_r07_Take_j14 p t vs c (-1) (-1) (-1)))
    (m_r07_Take_j12 p t vs c))
    (m_r07_Take_j12 p t vs c)) = some (if evC p (GEvent.mk (num40 n0) (num15 n1) (num40 n2) t.Name vs) ≠ 0 then (zeroE, 0, evC p (GEvent.mk (num40 n0) (num15 n1) (num40 n2) t.Name vs)) else (GEvent.mk (num40 n0) (num15 n1) (num40 n2) t.Name vs, c, 0)) := by
  have bad : ∀ e : GEvent, ¬ mayB e → evC p e = 8 := fun e he => by unfold evC; rw [if_neg (by simp [hs]), if_pos he]
  have j14 : ∀ x y z : Int, (-1 ≤ x ∧ x ≤ 1099511627776) → (-1 ≤ y ∧ y ≤ 15) → (-1 ≤ z ∧ z ≤ 1099511627776) → m_r07_Take_j14 p t vs c x y z = some (if evC p (GEvent.mk x y z t.Name vs) ≠ 0 then (zeroE, 0, evC p (GEvent.mk x y z t.Name vs)) else (GEvent.mk x y z t.Name vs, c, 0)) := by
    intro x y z hx hy hz
    unfold m_r07_Take_j14
    rw [recheck_ok hp ⟨by simp only; omega, by simp only; omega, by simp only; omega, h1, h2⟩, obind_some]
    split
    · rename_i h; rw [decide_eq_true h]; rfl
    · rename_i h; rw [decide_eq_false h]; rfl
  have hbad : m_r07_Take_j14 p t vs c (-1) (-1) (-1) = some (zeroE, 0, 8) := by
    rw [j14 _ _ _ (by omega) (by omega) (by omega), bad _ (fun h => by have := h.T; simp only at this; omega)]; rfl
  have n40 : ∀ n : Nat, ¬ n ≤ 1099511627776 → num40 n = -1 := fun n h => by unfold num40; rw [if_pos (by omega)]
  have n40' : ∀ n : Nat, n ≤ 1099511627776 → num40 n = n := fun n h => by unfold num40; rw [if_neg (by omega)]
  rw [g0, g1, g2, obind_some]
  simp only [obind_some]
  unfold m_r07_Take_j12
  rw [hbad]
  by_cases c0 : n0 ≤ 1099511627776
  · rw [decide_eq_true (by omega), cond_true]
    by_cases c1 : n1 < 16
    · rw [decide_eq_true (by omega), cond_true]
      by_cases c2 : n2 ≤ 1099511627776
      · rw [decide_eq_true (by omega), cond_true, w64 (by omega) (by omega), w64 (by omega) (by omega), w64 (by omega) (by omega), j14 _ _ _ (by omega) (by omega) (by omega), n40' _ c0, n40' _ c2, show num15 n1 = n1 by unfold num15; rw [if_neg (by omega)]]
      · rw [decide_eq_false (by omega), cond_false, n40 _ c2, bad _ (fun h => by have := h.Q; simp only at this; omega)]; rfl
    · rw [decide_eq_false (by omega), cond_false, show num15 n1 = -1 by unfold num15; rw [if_pos (by omega)], bad _ (fun h => by have := h.S; simp only at this; omega)]; rfl
  · rw [decide_eq_false (by omega), cond_false, n40 _ c0, bad _ (fun h => by have := h.T; simp only at this; omega)]; rfl
theorem retake_ok {p : List GType} {l : List UInt8} (a : Int) (hl : l.length ≤ 100000) (hp : scB p) : m_r07_Take p l a = some (etk p l a) := by
  unfold m_r07_Take m_r07_Take_j1 etk
  have hL := hp.L
  rw [rscheck_ok hp.L' hp.F, obind_some]
  by_cases h1 : schC p ≠ 0
  · rw [decide_eq_true h1, if_pos (.inl h1)]; rfl
  rw [decide_eq_false h1, cond_false]
  by_cases h2 : a < 0
  · rw [decide_eq_true h2, if_pos (.inr (.inl h2))]; rfl
  rw [decide_eq_false h2, cond_false]
  by_cases h3 : (l.length : Int) < a
  · rw [decide_eq_true h3, if_pos (.inr (.inr h3))]; rfl
  rw [decide_eq_false h3, cond_false, if_neg (by omega)]
  rw [show (1152921504606846976 : Nat) = 1152921504606846971 + 1 + 1 + 1 + 1 + 1 from rfl]
  have s0 := rst (p := p) (l := l) (by omega) 1152921504606846975 0 a [] (by omega) (by simp)
  refine Eq.trans s0 ?_
  cases ht : tk4 l a with
  | inl e =>
    unfold tk4 at ht
    by_cases c0 : (ztk l a).2.2 ≠ 0
    · rw [if_pos c0] at ht ⊢; cases ht; rfl
    rw [if_neg c0] at ht ⊢
    refine Eq.trans (rst (p := p) (l := l) (by omega) 1152921504606846974 1 _ _ (by omega) (by simp)) ?_
    generalize (((ztk l a).2.1 : Nat) : Int) = a1 at ht ⊢
    by_cases c1 : (ztk l a1).2.2 ≠ 0
    · rw [if_pos c1] at ht ⊢; cases ht; rfl
    rw [if_neg c1] at ht ⊢
    refine Eq.trans (rst (p := p) (l := l) (by omega) 1152921504606846973 2 _ _ (by omega) (by simp)) ?_
    generalize (((ztk l a1).2.1 : Nat) : Int) = a2 at ht ⊢
    by_cases c2 : (ztk l a2).2.2 ≠ 0
    · rw [if_pos c2] at ht ⊢; cases ht; rfl
    rw [if_neg c2] at ht ⊢
    refine Eq.trans (rst (p := p) (l := l) (by omega) 1152921504606846972 3 _ _ (by omega) (by simp)) ?_
    generalize (((ztk l a2).2.1 : Nat) : Int) = a3 at ht ⊢
    by_cases c3 : (ztk l a3).2.2 ≠ 0
    · rw [if_pos c3] at ht ⊢; cases ht; rfl
    rw [if_neg c3] at ht
    cases ht
  | inr q =>
    obtain ⟨n0, n1, n2, n3, b⟩ := q
    obtain ⟨b0, b1, b2, b3⟩ := tk4_lt ht
    unfold tk4 at ht
    by_cases c0 : (ztk l a).2.2 ≠ 0
    · rw [if_pos c0] at ht; cases ht
    rw [if_neg c0] at ht ⊢
    refine Eq.trans (rst (p := p) (l := l) (by omega) 1152921504606846974 1 _ _ (by omega) (by simp)) ?_
    generalize (ztk l a).1 = m0 at ht ⊢
    generalize (((ztk l a).2.1 : Nat) : Int) = a1 at ht ⊢
    by_cases c1 : (ztk l a1).2.2 ≠ 0
    · rw [if_pos c1] at ht; cases ht
    rw [if_neg c1] at ht ⊢
    refine Eq.trans (rst (p := p) (l := l) (by omega) 1152921504606846973 2 _ _ (by omega) (by simp)) ?_
    generalize (ztk l a1).1 = m1 at ht ⊢
    generalize (((ztk l a1).2.1 : Nat) : Int) = a2 at ht ⊢
    by_cases c2 : (ztk l a2).2.2 ≠ 0
    · rw [if_pos c2] at ht; cases ht
    rw [if_neg c2] at ht ⊢
    refine Eq.trans (rst (p := p) (l := l) (by omega) 1152921504606846972 3 _ _ (by omega) (by simp)) ?_
    generalize (ztk l a2).1 = m2 at ht ⊢
    generalize (((ztk l a2).2.1 : Nat) : Int) = a3 at ht ⊢
    by_cases c3 : (ztk l a3).2.2 ≠ 0
    · rw [if_pos c3] at ht; cases ht
    rw [if_neg c3] at ht ⊢
    generalize (ztk l a3).1 = m3 at ht ⊢
    generalize (ztk l a3).2.1 = bb at ht ⊢
    cases ht
    conv => lhs; unfold m_r07_Take_l2
    rw [decide_eq_false (by omega), cond_false]
    simp only [List.nil_append, List.cons_append]
    rw [show geti ([(n0 : Int), (n1 : Int), (n2 : Int), (n3 : Int)] : List Int) 3 = some (n3 : Int) from rfl, obind_some, wu64, Int.emod_eq_of_lt (by omega) (by omega)]
    by_cases h4 : p.length ≤ n3
    · rw [decide_eq_true (by omega), List.getElem?_eq_none h4]; rfl
    have h4 : n3 < p.length := by omega
    have hF := (hp.T _ (List.getElem_mem h4)).F
    rw [decide_eq_false (by omega), cond_false, obind_some, w64 (by omega) (by omega), List.getElem?_eq_getElem h4, geti_lt h4, obind_some]
    simp only
    have hvl := vals_loop (l := l) (L := fun fu vs a i => m_r07_Take_l7 p l p[n3] [(n0 : Int), (n1 : Int), (n2 : Int), (n3 : Int)] fu a vs i) (n := p[n3].Fields.length) (E := fun e => some (zeroE, 0, e))
      (K := fun vs c => m_r07_Take_l7 p l p[n3] [(n0 : Int), (n1 : Int), (n2 : Int), (n3 : Int)] 1 c vs (p[n3].Fields.length : Int))
      (fun fu vs a => by unfold m_r07_Take_l7; rw [d_nlt (by omega)]; rfl)
      (fun fu vs a i hi hvs => by
        conv => lhs; unfold m_r07_Take_l7
        rw [d_lt (by omega), cond_true, rvtake_ok (by omega), obind_some, app_ok (by simp; omega), obind_some, inc_ok (by omega)]
        by_cases h : (vtk l a).2.2 ≠ 0
        · rw [decide_eq_true h, if_pos h]; rfl
        · rw [decide_eq_false h, if_neg h]; rfl) p[n3].Fields.length 0 1152921504606846976 [] (b : Int) (by omega) rfl (by omega)
    refine Eq.trans hvl ?_
    cases hv : valsT l p[n3].Fields.length (b : Int) [] with
    | inl e => rfl
    | inr q =>
      obtain ⟨vs, c⟩ := q
      obtain ⟨g1, g2⟩ := valsT_good hl _ _ _ _ _ hv (by simp)
      simp only at g1 ⊢
      unfold m_r07_Take_l7
      rw [d_nlt (by omega), cond_false]
      exact rend_ok hp (by omega) (by rw [g1]; simp; omega) (fun v hv => (g2 v hv).1) b0 b1 b2 rfl rfl rfl
end Go.Proofs.YtaaooafcijdbmaaDoor.K

namespace Go.Proofs.YtaaooafcijdbmaaDoor.K
open Go.RowKit Go.Lib
theorem schL_names : ∀ (r pre : List GType), schL pre r = 0 → ∀ i (h : i < r.length), hasT (pre ++ r.take i) r[i].Name = false
  | [], _, _, i, h => by simp at h
  | t :: r, pre, hs, i, h => by
    rw [schL] at hs
    by_cases h0 : typC t ≠ 0
    · rw [if_pos h0] at hs; exact absurd hs h0
    rw [if_neg h0] at hs
    cases hT : hasT pre t.Name with
    | true => rw [if_pos hT] at hs; cases hs
    | false =>
      rw [if_neg (by simp [hT])] at hs
      cases i with
      | zero => simpa using hT
      | succ i =>
        have := schL_names r (pre ++ [t]) hs i (by simpa using h)
        simpa using this
theorem sch_names {p : List GType} (h : schC p = 0) {i : Nat} (hi : i < p.length) : hasT (p.take i) p[i].Name = false := by
  unfold schC at h
  split at h
  · cases h
  · simpa using schL_names p [] h i hi
theorem plc_pre (t : GType) (r : List GType) : ∀ (pre : List GType) (k : Nat), hasT pre t.Name = false → plc (pre ++ t :: r) t.Name k = ((k + pre.length : Nat) : Int) ∧ fnd (pre ++ t :: r) t.Name = (t, true)
  | [], k, _ => by rw [List.nil_append, plc, fnd, if_pos rfl, if_pos rfl]; exact ⟨rfl, rfl⟩
  | x :: pre, k, h => by
    unfold hasT at h
    rw [List.any_cons, Bool.or_eq_false_iff] at h
    have hx : x.Name ≠ t.Name := by simpa using h.1
    obtain ⟨h1, h2⟩ := plc_pre t r pre (k + 1) h.2
    rw [List.cons_append, plc, fnd, if_neg hx, if_neg hx, h1, h2, List.length_cons]
    exact ⟨by congr 1; omega, rfl⟩
theorem plc_at {p : List GType} (h : schC p = 0) {i : Nat} (hi : i < p.length) : plc p p[i].Name 0 = (i : Int) ∧ fnd p p[i].Name = (p[i], true) := by
  obtain ⟨h1, h2⟩ := plc_pre p[i] (p.drop (i + 1)) (p.take i) 0 (sch_names h hi)
  rw [← split_at hi] at h1 h2
  refine ⟨?_, h2⟩
  rw [h1, List.length_take, Nat.min_eq_left (by omega), Nat.zero_add]
/-! ### taken, so put -/
theorem ztk_good {l : List UInt8} {a : Int} (h : (ztk l a).2.2 = 0) : ∃ m k : Nat, a = m ∧ m + k ≤ l.length ∧ (ztk l a).2.1 = m + k ∧ (l.drop m).take k = zb (ztk l a).1 := by
  by_cases ha : a < 0 ∨ (l.length : Int) < a
  · unfold ztk at h; rw [if_pos ha] at h; simp at h
  · obtain ⟨m, rfl⟩ : ∃ m : Nat, a = m := ⟨a.toNat, by omega⟩
    have e := ztk_drop0 (l := l) (a := m) (by omega)
    rw [e] at h ⊢
    unfold zgo at h ⊢
    simp only at h ⊢
    obtain ⟨q1, q2⟩ := tk_bytes (l := l.drop m) (u := (tk (l.drop m) 10 0 0).1) (n := (tk (l.drop m) 10 0 0).2.1) (Prod.ext rfl (Prod.ext rfl h))
    rw [List.length_drop] at q1
    exact ⟨m, (tk (l.drop m) 10 0 0).2.1, rfl, by omega, by rw [if_pos h], q2⟩
theorem tk4_bytes {l : List UInt8} {n0 n1 n2 n3 b : Nat} (h : tk4 l 0 = .inr (n0, n1, n2, n3, b)) : b ≤ l.length ∧ l.take b = zb n0 ++ zb n1 ++ zb n2 ++ zb n3 := by
  unfold tk4 at h
  by_cases c0 : (ztk l 0).2.2 ≠ 0
  · rw [if_pos c0] at h; cases h
  rw [if_neg c0] at h
  obtain ⟨m0, k0, a0, d0, e0, f0⟩ := ztk_good (by omega : (ztk l 0).2.2 = 0)
  obtain rfl : m0 = 0 := by omega
  generalize (ztk l 0).1 = u0 at h f0
  generalize (ztk l 0).2.1 = p1 at h e0
  by_cases c1 : (ztk l (p1 : Int)).2.2 ≠ 0
  · rw [if_pos c1] at h; cases h
  rw [if_neg c1] at h
  obtain ⟨m1, k1, a1, d1, e1, f1⟩ := ztk_good (by omega : (ztk l (p1 : Int)).2.2 = 0)
  generalize (ztk l (p1 : Int)).1 = u1 at h f1
  generalize (ztk l (p1 : Int)).2.1 = p2 at h e1
  by_cases c2 : (ztk l (p2 : Int)).2.2 ≠ 0
  · rw [if_pos c2] at h; cases h
  rw [if_neg c2] at h
  obtain ⟨m2, k2, a2, d2, e2, f2⟩ := ztk_good (by omega : (ztk l (p2 : Int)).2.2 = 0)
  generalize (ztk l (p2 : Int)).1 = u2 at h f2
  generalize (ztk l (p2 : Int)).2.1 = p3 at h e2
  by_cases c3 : (ztk l (p3 : Int)).2.2 ≠ 0
  · rw [if_pos c3] at h; cases h
  rw [if_neg c3] at h
  obtain ⟨m3, k3, a3, d3, e3, f3⟩ := ztk_good (by omega : (ztk l (p3 : Int)).2.2 = 0)
  generalize (ztk l (p3 : Int)).1 = u3 at h f3
  generalize (ztk l (p3 : Int)).2.1 = p4 at h e3
  cases h
  refine ⟨by omega, ?_⟩
  obtain rfl : m1 = k0 := by omega
  obtain rfl : m2 = m1 + k1 := by omega
  obtain rfl : m3 = m1 + k1 + k2 := by omega
  rw [e3, List.take_add, f3, List.take_add, f2, List.take_add, f1]
  rw [List.drop_zero] at f0
  rw [f0]
theorem valsT_bytes {l : List UInt8} (hl : l.length ≤ 100000) : ∀ (k : Nat) (a : Nat) (vs vs' : List GValue) (b : Int), a ≤ l.length → valsT l k (a : Int) vs = .inr (vs', b) → ∃ c : Nat, b = c ∧ a ≤ c ∧ c ≤ l.length ∧ valsB vs' = valsB vs ++ (l.drop a).take (c - a)
  | 0, a, vs, vs', b, ha, h => by
    rw [valsT] at h; cases h
    exact ⟨a, rfl, Nat.le_refl _, ha, by simp⟩
  | k + 1, a, vs, vs', b, ha, h => by
    rw [valsT] at h
    by_cases h0 : (vtk l (a : Int)).2.2 ≠ 0
    · rw [if_pos h0] at h; cases h
    rw [if_neg h0] at h
    obtain ⟨_, _, m, j, e1, e2, e3, e4⟩ := vtk_good hl (by omega : (vtk l (a : Int)).2.2 = 0)
    obtain rfl : m = a := by omega
    rw [e3] at h
    obtain ⟨c, q1, q2, q3, q4⟩ := valsT_bytes hl k _ _ vs' b e2 h
    refine ⟨c, q1, by omega, q3, ?_⟩
    rw [q4, show c - m = j + (c - (m + j)) by omega, List.take_add, List.drop_drop, ← e4]
    unfold valsB
    rw [List.flatMap_append]
    simp only [List.flatMap_cons, List.flatMap_nil, List.append_nil, List.append_assoc]
theorem num40_nn {n : Nat} (h : 0 ≤ num40 n) : (num40 n).toNat = n := by
  unfold num40 at h ⊢
  by_cases c : 1099511627776 < n
  · rw [if_pos c] at h; omega
  · rw [if_neg c]; omega
theorem num15_nn {n : Nat} (h : 0 ≤ num15 n) : (num15 n).toNat = n := by
  unfold num15 at h ⊢
  by_cases c : 15 < n
  · rw [if_pos c] at h; omega
  · rw [if_neg c]; omega
theorem ev_take_put {p : List GType} {l : List UInt8} {e : GEvent} {n : Int} (hp : scB p) (hl : l.length ≤ 100000) (h : etk p l 0 = (e, n, 0)) : evGood p e ∧ evO e ∧ ∃ m : Nat, n = m ∧ m ≤ l.length ∧ evB' p e = l.take m := by
  unfold etk at h
  by_cases c0 : schC p ≠ 0 ∨ (0 : Int) < 0 ∨ (l.length : Int) < 0
  · rw [if_pos c0] at h; simp at h
  rw [if_neg c0] at h
  have hs : schC p = 0 := by omega
  cases ht : tk4 l 0 with
  | inl er =>
    rw [ht] at h
    have hn := numbers_ok (l := l) (by omega) 0
    rw [ht] at hn
    obtain ⟨_, _, hn⟩ := hn
    simp only [Prod.mk.injEq] at h
    omega
  | inr q =>
    obtain ⟨n0, n1, n2, n3, b⟩ := q
    rw [ht] at h
    simp only at h
    by_cases h4 : p.length ≤ n3
    · rw [List.getElem?_eq_none h4] at h; simp at h
    have h4 : n3 < p.length := by omega
    rw [List.getElem?_eq_getElem h4] at h
    simp only at h
    obtain ⟨b1, b2⟩ := tk4_bytes ht
    cases hv : valsT l p[n3].Fields.length (b : Int) [] with
    | inl er =>
      rw [hv] at h
      simp only [Prod.mk.injEq] at h
      exfalso
      obtain ⟨_, _, rfl⟩ := h
      exact valsT_err _ _ _ hv
    | inr q =>
      obtain ⟨vs, c⟩ := q
      rw [hv] at h
      simp only at h
      obtain ⟨g1, g2⟩ := valsT_good hl _ _ _ _ _ hv (by simp)
      obtain ⟨cc, k1, k2, k3, k4⟩ := valsT_bytes hl _ _ _ _ _ b1 hv
      by_cases c1 : evC p (GEvent.mk (num40 n0) (num15 n1) (num40 n2) p[n3].Name vs) ≠ 0
      · rw [if_pos c1] at h
        simp only [Prod.mk.injEq] at h
        exact absurd h.2.2 c1
      rw [if_neg c1] at h
      simp only [Prod.mk.injEq, and_true] at h
      obtain ⟨h1, h2⟩ := h
      have gd := evC_zero (by omega : evC p (GEvent.mk (num40 n0) (num15 n1) (num40 n2) p[n3].Name vs) = 0)
      have hF := (hp.T _ (List.getElem_mem h4)).F
      have ho := tk_evO (n0 := n0) (n1 := n1) (n2 := n2) (t := p[n3].Name) (vs := vs) (by rw [g1]; simpa using hF) fun v hv => (g2 v hv).1
      subst h1
      refine ⟨gd, ho, cc, by omega, k3, ?_⟩
      have a1 := gd.M.T.1; have a2 := gd.M.S.1; have a3 := gd.M.Q.1
      simp only at a1 a2 a3
      unfold evB' headB
      simp only
      rw [num40_nn a1, num15_nn a2, num40_nn a3, (plc_at hs h4).1, Int.toNat_natCast, ← b2, k4]
      have : cc = b + (cc - b) := by omega
      conv => rhs; rw [this, List.take_add]
      simp [valsB]
/-! ### put, so taken -/
end Go.Proofs.YtaaooafcijdbmaaDoor.K

namespace Go.Proofs.YtaaooafcijdbmaaDoor.K
open Go.RowKit Go.Lib
theorem sc_esame {a b : GEvent} (ha : a.Vals.length ≤ 1000000) (hb : b.Vals.length ≤ 1000000) : m_event_Same a b = some (decide (a = b)) := by
  unfold m_event_Same m_event_Event_ID
  rw [obind_some, obind_some, obind_some]
  simp only
  by_cases h1 : a.Time = b.Time ∧ a.Source = b.Source ∧ a.Seq = b.Seq
  · rw [decide_eq_true h1.1, decide_eq_true h1.2.1, decide_eq_true h1.2.2]
    by_cases h4 : a.Type_ = b.Type_
    · rw [decide_eq_true h4]
      show Option.bind (m_slices_Equal_Value a.Vals b.Vals) (fun r => some r) = _
      unfold m_slices_Equal_Value
      by_cases h5 : a.Vals.length = b.Vals.length
      · rw [decide_eq_false (by simp [h5]), cond_false]
        have := eq_loop (L := fun fu i => m_slices_Equal_Value_l2 a.Vals b.Vals fu i) (a := a.Vals) (b := b.Vals) h5 (by omega)
          (fun fu => by unfold m_slices_Equal_Value_l2; rw [d_nlt (by omega)]; rfl)
          (fun fu i i1 i2 => by
            conv => lhs; unfold m_slices_Equal_Value_l2
            rw [d_lt (by omega), cond_true, geti_lt i1, obind_some, geti_lt i2, obind_some, same4, obind_some, inc_ok (by omega)]
            by_cases h : a.Vals[i] = b.Vals[i]
            · rw [decide_eq_true h, if_pos h]; rfl
            · rw [decide_eq_false h, if_neg h]; rfl)
        rw [show m_slices_Equal_Value_l2 a.Vals b.Vals 1152921504606846976 0 = some (decide (a.Vals = b.Vals)) from this, obind_some]
        congr 1
        exact decide_eq_decide.2 ⟨fun h => evEq h1.1 h1.2.1 h1.2.2 h4 h, fun h => by rw [h]⟩
      · rw [decide_eq_true (by omega), decide_eq_false (fun h : a = b => h5 (by rw [h]))]; rfl
    · rw [decide_eq_false h4, decide_eq_false (fun h : a = b => h4 (by rw [h]))]; rfl
  · rw [show (decide (a.Time = b.Time) && (decide (a.Source = b.Source) && (decide (a.Seq = b.Seq) && true))) = false by
      rw [Bool.eq_false_iff]; intro q; apply h1; simpa using q, decide_eq_false (fun h : a = b => h1 (by rw [h]; exact ⟨rfl, rfl, rfl⟩))]; rfl
abbrev kC (c : GCommand) : Nat := c.Kind.toNat
/-- A command's parts, as a law lays them. -/
structure cmO (c : GCommand) : Prop where
  T : c.Text.length ≤ 700
  A : -9223372036854775808 ≤ c.A ∧ c.A ≤ 9223372036854775807
  B : -9223372036854775808 ≤ c.B ∧ c.B ≤ 9223372036854775807
  E : evO c.E
theorem has_ok (c : GCommand) (h : kC c ≤ 7) : m_script_Command_has c 1 = some (decide (kC c = 1)) ∧ m_script_Command_has c 2 = some (decide (kC c = 3)) ∧ m_script_Command_has c 4 = some (decide (4 ≤ kC c)) ∧ m_script_Command_has c 8 = some (decide (kC c = 4)) := by
  unfold m_script_Command_has
  have e : c.Kind.toNat = kC c := rfl
  rw [e]
  generalize kC c = k at h
  have k7 : k = 0 ∨ k = 1 ∨ k = 2 ∨ k = 3 ∨ k = 4 ∨ k = 5 ∨ k = 6 ∨ k = 7 := by omega
  rcases k7 with rfl | rfl | rfl | rfl | rfl | rfl | rfl | rfl <;> decide +kernel
theorem kind_ok (c : GCommand) : m_script_Command_kind c = some (decide (1 ≤ kC c ∧ kC c ≤ 7)) := by
  unfold m_script_Command_kind
  have e : c.Kind.toNat = kC c := rfl
  rw [e]
  by_cases a : 1 ≤ kC c
  · rw [decide_eq_true (by omega), cond_true]
    congr 1
    exact decide_eq_decide.2 (by omega)
  · rw [decide_eq_false (by omega), cond_false, decide_eq_false (by omega)]
def morC (c : GCommand) : Bool := (!decide (kC c = 1) && decide (c.Text ≠ [])) || (!decide (kC c = 3) && !decide (c.E = zeroE)) || (!decide (4 ≤ kC c) && decide (c.A ≠ 0)) || (!decide (kC c = 4) && decide (c.B ≠ 0))
/-- May a command be? -/
def chkC (p : List GType) (c : GCommand) : Int := if schC p ≠ 0 then 2 else if ¬ (1 ≤ kC c ∧ kC c ≤ 7) then 11 else if kC c = 1 ∧ 600 < c.Text.length then 5 else if kC c = 3 ∧ evC p c.E ≠ 0 then evC p c.E else if morC c = true then 2 else 0
theorem csame_ok {a b : GCommand} (ha : a.E.Vals.length ≤ 1000000) (hb : b.E.Vals.length ≤ 1000000) : m_script_Same a b = some (decide (a = b)) ∧ m_r37_Same a b = some (decide (a = b)) := by
  unfold m_script_Same m_r37_Same
  rw [sc_esame ha hb, rsame_ok ha hb]
  have e : decide (a = b) = (decide (((a.Kind.toNat : Nat) : Int) = ((b.Kind.toNat : Nat) : Int)) && (decide (a.Text = b.Text) && (decide (a.A = b.A) && (decide (a.B = b.B) && decide (a.E = b.E))))) := by
    obtain ⟨k, t, x, y, z⟩ := a
    obtain ⟨k', t', x', y', z'⟩ := b
    have u8 : ((k.toNat : Nat) : Int) = ((k'.toNat : Nat) : Int) ↔ k = k' := ⟨fun h => UInt8.toNat_inj.1 (by omega), fun h => by rw [h]⟩
    simp only [u8, GCommand.mk.injEq, Bool.decide_and]
  rw [e]
  cases decide (((a.Kind.toNat : Nat) : Int) = ((b.Kind.toNat : Nat) : Int)) <;> cases decide (a.Text = b.Text) <;> cases decide (a.A = b.A) <;> cases decide (a.B = b.B) <;> cases decide (a.E = b.E) <;> exact ⟨rfl, rfl⟩
/-! ### a command's bytes -/
def cmS (p : List GType) (c : GCommand) : List UInt8 := c.Kind :: (if kC c = 1 then beb 2 c.Text.length ++ c.Text else if kC c = 3 then evB' p c.E else (if 4 ≤ kC c then zb (zfold c.A) else []) ++ (if kC c = 4 then zb (zfold c.B) else []))
theorem chk_of_parts {p : List GType} {c : GCommand} (s : schC p = 0) (k : 1 ≤ kC c ∧ kC c ≤ 7) (a : kC c = 1 → c.Text.length ≤ 600) (b : kC c = 3 → evC p c.E = 0) (m : morC c = false) : chkC p c = 0 := by
  unfold chkC
  rw [if_neg (by simp [s]), if_neg (by simp [k]), if_neg (fun q => by have := a q.1; omega), if_neg (fun q => q.2 (b q.1)), if_neg (by simp [m])]
/-! ### scripts -/
end Go.Proofs.YtaaooafcijdbmaaDoor.K

namespace Go.Proofs.YtaaooafcijdbmaaDoor.K
open Go.RowKit Go.Lib
theorem awk37 : m_w37_awake = some true := by decide +kernel
end Go.Proofs.YtaaooafcijdbmaaDoor.K

namespace Go.Proofs.YtaaooafcijdbmaaDoor.K
open Go.RowKit Go.Lib
theorem zt_step {l : List UInt8} {a b : Nat} (h : a + b ≤ l.length) : (ztk l ((a + b : Nat) : Int)).1 = (ztk (l.drop a) (b : Int)).1 ∧ (ztk l ((a + b : Nat) : Int)).2.2 = (ztk (l.drop a) (b : Int)).2.2 ∧ ((ztk (l.drop a) (b : Int)).2.2 = 0 → (ztk l ((a + b : Nat) : Int)).2.1 = a + (ztk (l.drop a) (b : Int)).2.1 ∧ a + (ztk (l.drop a) (b : Int)).2.1 ≤ l.length) := by
  have e := ztk_drop (l := l) (a := a) (b := b) h
  have p := ztk_place (l := l.drop a) (a := b) (by rw [List.length_drop]; omega)
  rw [List.length_drop] at p
  refine ⟨by rw [e], by rw [e], fun z => ?_⟩
  rw [e]
  simp only
  rw [if_pos z]
  exact ⟨rfl, by omega⟩
theorem tk4_drop {l : List UInt8} {a : Nat} (ha : a ≤ l.length) : tk4 l (a : Int) = match tk4 (l.drop a) 0 with
    | .inl e => .inl e
    | .inr (n0, n1, n2, n3, b) => .inr (n0, n1, n2, n3, a + b) := by
  unfold tk4
  obtain ⟨x0, y0, z0⟩ := zt_step (l := l) (a := a) (b := 0) (by omega)
  rw [Nat.add_zero, show (((0 : Nat)) : Int) = 0 from rfl] at x0 y0 z0
  rw [x0, y0]
  by_cases c0 : (ztk (l.drop a) 0).2.2 ≠ 0
  · rw [if_pos c0, if_pos c0]
  obtain ⟨w0, v0⟩ := z0 (by omega)
  rw [if_neg c0, if_neg c0, w0]
  generalize (ztk (l.drop a) 0).2.1 = b0 at v0
  generalize (ztk (l.drop a) 0).1 = n0
  obtain ⟨x1, y1, z1⟩ := zt_step (l := l) (a := a) (b := b0) (by omega)
  rw [x1, y1]
  by_cases c1 : (ztk (l.drop a) (b0 : Int)).2.2 ≠ 0
  · rw [if_pos c1, if_pos c1]
  obtain ⟨w1, v1⟩ := z1 (by omega)
  rw [if_neg c1, if_neg c1, w1]
  generalize (ztk (l.drop a) (b0 : Int)).2.1 = b1 at v1
  generalize (ztk (l.drop a) (b0 : Int)).1 = n1
  obtain ⟨x2, y2, z2⟩ := zt_step (l := l) (a := a) (b := b1) (by omega)
  rw [x2, y2]
  by_cases c2 : (ztk (l.drop a) (b1 : Int)).2.2 ≠ 0
  · rw [if_pos c2, if_pos c2]
  obtain ⟨w2, v2⟩ := z2 (by omega)
  rw [if_neg c2, if_neg c2, w2]
  generalize (ztk (l.drop a) (b1 : Int)).2.1 = b2 at v2
  generalize (ztk (l.drop a) (b1 : Int)).1 = n2
  obtain ⟨x3, y3, z3⟩ := zt_step (l := l) (a := a) (b := b2) (by omega)
  rw [x3, y3]
  by_cases c3 : (ztk (l.drop a) (b2 : Int)).2.2 ≠ 0
  · rw [if_pos c3, if_pos c3]
  obtain ⟨w3, v3⟩ := z3 (by omega)
  rw [if_neg c3, if_neg c3, w3]
theorem vt_step {l : List UInt8} {a b : Nat} (hl : l.length ≤ 100000) (h : a + b ≤ l.length) : (vtk l ((a + b : Nat) : Int)).1 = (vtk (l.drop a) (b : Int)).1 ∧ (vtk l ((a + b : Nat) : Int)).2.2 = (vtk (l.drop a) (b : Int)).2.2 ∧ ((vtk (l.drop a) (b : Int)).2.2 = 0 → ∃ c : Nat, (vtk l ((a + b : Nat) : Int)).2.1 = ((a + c : Nat) : Int) ∧ (vtk (l.drop a) (b : Int)).2.1 = (c : Int) ∧ a + c ≤ l.length) := by
  have e1 := vtk_drop (l := l) (a := a + b) h
  have e2 := vtk_drop (l := l.drop a) (a := b) (by rw [List.length_drop]; omega)
  rw [List.drop_drop] at e2
  refine ⟨by rw [e1, e2], by rw [e1, e2], fun z => ?_⟩
  obtain ⟨_, _, m, k, q1, q2, q3, _⟩ := vtk_good (l := l.drop a) (a := (b : Int)) (by rw [List.length_drop]; omega) z
  rw [List.length_drop] at q2
  refine ⟨m + k, ?_, q3, by omega⟩
  have z' : (vtk (l.drop (a + b)) 0).2.2 = 0 := by rw [e2] at z; exact z
  rw [e1]
  simp only
  rw [if_pos z']
  rw [e2] at q3
  simp only at q3
  rw [if_pos z'] at q3
  omega
theorem valsT_drop {l : List UInt8} {a : Nat} (hl : l.length ≤ 100000) : ∀ (k b : Nat) (vs : List GValue), a + b ≤ l.length → valsT l k ((a + b : Nat) : Int) vs = match valsT (l.drop a) k (b : Int) vs with
    | .inl e => .inl e
    | .inr (vs', c) => .inr (vs', (a : Int) + c)
  | 0, b, vs, h => by rw [valsT, valsT]; simp
  | k + 1, b, vs, h => by
    obtain ⟨x, y, z⟩ := vt_step hl h
    rw [valsT, valsT, x, y]
    by_cases c : (vtk (l.drop a) (b : Int)).2.2 ≠ 0
    · rw [if_pos c, if_pos c]
    · obtain ⟨d, w1, w2, w3⟩ := z (by omega)
      rw [if_neg c, if_neg c, w1, w2]
      exact valsT_drop hl k d _ w3
theorem tk4_place {l : List UInt8} {n0 n1 n2 n3 b : Nat} (h : tk4 l 0 = .inr (n0, n1, n2, n3, b)) : b ≤ l.length := (tk4_bytes h).1
theorem tk4_ne (l : List UInt8) (a : Int) : tk4 l a ≠ .inl 0 := by
  unfold tk4
  intro h
  split at h
  · rename_i c; exact c (Sum.inl.inj h)
  split at h
  · rename_i c; exact c (Sum.inl.inj h)
  split at h
  · rename_i c; exact c (Sum.inl.inj h)
  split at h
  · rename_i c; exact c (Sum.inl.inj h)
  cases h
theorem etk_drop {p : List GType} {l : List UInt8} {a : Nat} (hl : l.length ≤ 100000) (ha : a ≤ l.length) : etk p l (a : Int) = ((etk p (l.drop a) 0).1, if (etk p (l.drop a) 0).2.2 = 0 then (a : Int) + (etk p (l.drop a) 0).2.1 else 0, (etk p (l.drop a) 0).2.2) := by
  unfold etk
  by_cases s : schC p ≠ 0
  · rw [if_pos (.inl s), if_pos (.inl s)]; rfl
  rw [if_neg (by omega), if_neg (by simp at s ⊢; exact s), tk4_drop ha]
  have ne := tk4_ne (l.drop a) 0
  cases ht : tk4 (l.drop a) 0 with
  | inl e =>
    have : e ≠ 0 := fun q => ne (by rw [ht, q])
    simp only
    rw [if_neg (by omega)]
  | inr q =>
    obtain ⟨n0, n1, n2, n3, b⟩ := q
    have hb := tk4_place ht
    rw [List.length_drop] at hb
    simp only
    cases hp : p[n3]? with
    | none => rfl
    | some t =>
      simp only
      rw [valsT_drop hl _ b [] (by omega)]
      have ve := valsT_err (l := l.drop a) t.Fields.length (b : Int) []
      cases hv : valsT (l.drop a) t.Fields.length (b : Int) [] with
      | inl e =>
        have : e ≠ 0 := fun q => ve (by rw [hv, q])
        simp only
        rw [if_neg this]
      | inr q =>
        obtain ⟨vs, c⟩ := q
        simp only
        by_cases h : evC p (GEvent.mk (num40 n0) (num15 n1) (num40 n2) t.Name vs) ≠ 0
        · rw [if_pos h, if_pos h]
          simp only
          rw [if_neg h]
        · rw [if_neg h, if_neg h]
          simp
end Go.Proofs.YtaaooafcijdbmaaDoor.K

namespace Go.Proofs.YtaaooafcijdbmaaDoor.K
open Go.RowKit Go.Lib
theorem beb2 (n : Nat) : beb 2 n = beB 2 n := by simp [beb, beB]
/-- A text with its length ahead. -/
def strR (s : List UInt8) : Option (List UInt8) := if s.length < 2 ∨ s.length < 2 + beN 0 (s.take 2) then none else some ((s.drop 2).take (beN 0 (s.take 2)))
theorem ostr_ok {s : List UInt8} (hs : s.length ≤ 1000000) : match strR s with
    | none => ∃ g, m_octet_Reader_Str (GReader.mk s 0 0) = some (g, []) ∧ g.E = 3
    | some w => m_octet_Reader_Str (GReader.mk s 0 0) = some (GReader.mk s ((2 + w.length : Nat) : Int) 0, w) := by
  unfold m_octet_Reader_Str m_octet_Reader_take m_octet_Reader_Left m_octet_Reader_fail strR
  simp only
  rw [decide_eq_false (p := ((0 : Int) ≠ 0)) (by decide), cond_false, d_nlt (by decide), cond_false, d_nlt (by omega), cond_false, w64 (by omega) (by omega), obind_some, Int.sub_zero]
  by_cases h : s.length < 2
  · rw [d_lt (by omega), cond_true, if_pos (.inl h)]
    exact ⟨_, rfl, rfl⟩
  have e := cut_ok (l := s) (a := 0) (b := 2) (by omega) (by omega)
  rw [Int.natCast_zero] at e
  have bl := beN_lt (s.take 2) 0 0 (by decide)
  rw [List.length_take, Nat.min_eq_left (by omega)] at bl
  rw [d_nlt (by omega), cond_false, show IntKind.i64.wrap (0 + 2) = ((2 : Nat) : Int) by decide, e, obind_some, List.drop_zero, Nat.sub_zero, chk_ok (by simp; omega), word_l (g := GReader.mk s 0 0) (n := 2) (by simp; omega) (by simp) (by decide), obind_some]
  simp only
  have e2 : IntKind.i64.wrap ((beN 0 (s.take 2) : Nat) : Int) = ((beN 0 (s.take 2) : Nat) : Int) := w64 (by omega) (by omega)
  rw [decide_eq_false (p := ((0 : Int) ≠ 0)) (by decide), cond_false, d_nlt (by decide), cond_false, d_nlt (by omega), cond_false, obind_some, e2]
  rw [show IntKind.i64.wrap (((s.length : Nat) : Int) - (0 + 2)) = ((s.length - 2 : Nat) : Int) by rw [w64 (by omega) (by omega)]; omega]
  generalize beN 0 (s.take 2) = n at bl ⊢
  by_cases h2 : s.length < 2 + n
  · rw [d_lt (by omega), cond_true, if_pos (.inr h2)]
    exact ⟨_, rfl, rfl⟩
  have e3 := cut_ok (l := s) (a := 2) (b := 2 + n) (by omega) (by omega)
  rw [d_nlt (by omega), cond_false, if_neg (by omega), show IntKind.i64.wrap ((0 : Int) + 2 + ((n : Nat) : Int)) = ((2 + n : Nat) : Int) by rw [w64 (by omega) (by omega)]; omega]
  rw [show ((0 : Int) + 2) = ((2 : Nat) : Int) by decide, e3, obind_some]
  simp only
  have el : ((s.drop 2).take n).length = n := by simp; omega
  rw [el, show 2 + n - 2 = n by omega]
theorem rstr_ok {s : List UInt8} (hs : s.length ≤ 1000000) : match strR s with
    | none => ∃ g, m_r01_RStr (GReader.mk s 0 0) = some (g, []) ∧ g.E = 3
    | some w => m_r01_RStr (GReader.mk s 0 0) = some (GReader.mk s ((2 + w.length : Nat) : Int) 0, w) := by
  unfold m_r01_RStr m_r01_RNum m_r01_rest strR
  have e := cut_ok (l := s) (a := 0) (b := s.length) (by omega) (Nat.le_refl _)
  rw [Int.natCast_zero] at e
  simp only
  rw [d_nlt (by decide), cond_false, d_nlt (by omega), cond_false, e, obind_some, List.drop_zero, Nat.sub_zero, List.take_of_length_le (Nat.le_refl _), obind_some, decide_eq_false (p := ((0 : Int) ≠ 0)) (by decide), cond_false, d_nlt (by decide), cond_false, d_nlt (by decide), cond_false]
  by_cases h : s.length < 2
  · rw [d_lt (by omega), cond_true, if_pos (.inl h), obind_some]
    simp only
    rw [decide_eq_true (by decide)]
    exact ⟨_, rfl, rfl⟩
  rw [d_nlt (by omega), cond_false]
  have lp := loopG_0 (L := fun fu (u : Nat) i => m_r01_RNum_l3 (GReader.mk s 0 0) 2 s fu (u : Int) i) (n := 2) (P := fun i u o => u < 256 ^ i → o = some (GReader.mk s 2 0, ((beN u ((s.take 2).drop i) : Nat) : Int))) (by omega)
      (fun fu u hu => by
        unfold m_r01_RNum_l3
        rw [d_nlt (by omega), cond_false, List.drop_of_length_le (by simp; omega)]; rfl)
      (fun fu u i hi ih hu => by
        unfold m_r01_RNum_l3
        have hil : i < s.length := by omega
        have hc := UInt8.toNat_lt s[i]
        have hp := pow256 (show i ≤ 7 by omega)
        have hq : (256 : Nat) ^ i ≤ 256 := by
          have := Nat.pow_le_pow_right (n := 256) (by decide) (show i ≤ 1 by omega)
          simpa using this
        have := ih (u * 256 + s[i].toNat) (by rw [Nat.pow_succ]; omega)
        have hw : IntKind.i64.wrap (IntKind.i64.wrap ((u : Int) * 256) + ((s[i].toNat : Nat) : Int)) = ((u * 256 + s[i].toNat : Nat) : Int) := by rw [w64 (n := (u : Int) * 256) (by omega) (by omega), w64 (by omega) (by omega)]; omega
        have ht : (s.take 2).drop i = s[i] :: (s.take 2).drop (i + 1) := by
          have hi2 : i < (s.take 2).length := by simp; omega
          rw [List.drop_eq_getElem_cons hi2, List.getElem_take]
        rw [d_lt (by omega), cond_true, geti_lt hil, obind_some, hw, inc_ok (by omega), this, ht]; rfl) 0 (by decide)
  have lp' : m_r01_RNum_l3 (GReader.mk s 0 0) 2 s 1152921504606846976 0 0 = some (GReader.mk s 2 0, ((beN 0 (s.take 2) : Nat) : Int)) := by simpa using lp
  have bl := beN_lt (s.take 2) 0 0 (by decide)
  rw [List.length_take, Nat.min_eq_left (by omega)] at bl
  rw [lp', obind_some]
  simp only
  have e4 := cut_ok (l := s) (a := 2) (b := s.length) (by omega) (Nat.le_refl _)
  rw [decide_eq_false (p := ((0 : Int) ≠ 0)) (by decide), cond_false, d_nlt (by decide), cond_false, d_nlt (by omega), cond_false, show (2 : Int) = ((2 : Nat) : Int) by rfl, e4, obind_some, obind_some, show (s.drop 2).take (s.length - 2) = s.drop 2 from List.take_of_length_le (by simp)]
  have el : (s.drop 2).length = s.length - 2 := by simp
  rw [el]
  generalize beN 0 (s.take 2) = n at bl ⊢
  by_cases h2 : s.length < 2 + n
  · rw [d_lt (by omega), cond_true, if_pos (.inr h2)]
    exact ⟨_, rfl, rfl⟩
  have e5 := cut_ok (l := s.drop 2) (a := 0) (b := n) (by omega) (by omega)
  rw [Int.natCast_zero] at e5
  rw [d_nlt (by omega), cond_false, if_neg (by omega), e5, obind_some]
  simp only
  have el2 : ((s.drop 2).take n).length = n := by simp; omega
  rw [List.drop_zero, Nat.sub_zero, el2, w64 (by omega) (by omega)]
  rw [show ((2 : Nat) : Int) + ((n : Nat) : Int) = ((2 + n : Nat) : Int) by omega]
/-- The command at the head of some bytes. -/
def rdC (p : List GType) (k : UInt8) (t : List UInt8) : Int ⊕ (GCommand × Nat) :=
  if ¬ (1 ≤ k.toNat ∧ k.toNat ≤ 7) then .inl 11
  else if k.toNat = 1 then (match strR t with
    | none => .inl 3
    | some w => if 600 < w.length then .inl 5 else .inr (GCommand.mk k w 0 0 zeroE, 3 + w.length))
  else if k.toNat = 3 then (if (etk p t 0).2.2 ≠ 0 then .inl (etk p t 0).2.2 else .inr (GCommand.mk k [] 0 0 (etk p t 0).1, 1 + (etk p t 0).2.1.toNat))
  else if k.toNat = 2 then .inr (GCommand.mk k [] 0 0 zeroE, 1)
  else if (ztk t 0).2.2 ≠ 0 then .inl (((ztk t 0).2.2 : Nat) : Int)
  else if k.toNat = 4 then (if (ztk t (((ztk t 0).2.1 : Nat) : Int)).2.2 ≠ 0 then .inl (((ztk t (((ztk t 0).2.1 : Nat) : Int)).2.2 : Nat) : Int) else .inr (GCommand.mk k [] (zback (ztk t 0).1) (zback (ztk t (((ztk t 0).2.1 : Nat) : Int)).1) zeroE, 1 + (ztk t (((ztk t 0).2.1 : Nat) : Int)).2.1))
  else .inr (GCommand.mk k [] (zback (ztk t 0).1) 0 zeroE, 1 + (ztk t 0).2.1)
theorem etk_nn {p : List GType} {s : List UInt8} (hp : scB p) (hl : s.length ≤ 100000) (h : (etk p s 0).2.2 = 0) : ∃ m : Nat, (etk p s 0).2.1 = m ∧ m ≤ s.length ∧ evGood p (etk p s 0).1 ∧ evO (etk p s 0).1 ∧ evB' p (etk p s 0).1 = s.take m := by
  obtain ⟨g, o, m, e1, e2, e3⟩ := ev_take_put (e := (etk p s 0).1) (n := (etk p s 0).2.1) hp hl (Prod.ext rfl (Prod.ext rfl h))
  exact ⟨m, e1, e2, g, o, e3⟩
theorem words_ok {l : List UInt8} {a : Nat} (hl : l.length ≤ 100000) (ha : a ≤ l.length) : m_script_words l (a : Int) = match strR (l.drop a) with
    | none => some ([], (a : Int), 3)
    | some w => if 600 < w.length then some ([], (a : Int), 5) else some (w, ((a + (2 + w.length) : Nat) : Int), 0) := by
  unfold m_script_words m_octet_Open
  have e := cut_ok (l := l) (a := a) (b := l.length) ha (Nat.le_refl _)
  rw [e, obind_some, obind_some, List.take_of_length_le (by simp)]
  have h := ostr_ok (s := l.drop a) (by simp; omega)
  have hw : ∀ w, strR (l.drop a) = some w → w.length ≤ 100000 := fun w q => by
    unfold strR at q
    split at q
    · cases q
    · cases q; simp; omega
  cases q : strR (l.drop a) with
  | none =>
    rw [q] at h
    obtain ⟨g, h1, h2⟩ := h
    rw [h1, obind_some]
    simp only
    rw [h2, decide_eq_true (by decide)]; rfl
  | some w =>
    have := hw w q
    rw [q] at h
    simp only at h ⊢
    rw [h, obind_some]
    simp only
    rw [decide_eq_false (p := ((0 : Int) ≠ 0)) (by decide), cond_false]
    by_cases c : 600 < w.length
    · rw [d_lt (by omega), cond_true, if_pos c]
    · rw [d_nlt (by omega), cond_false, if_neg c, w64 (by omega) (by omega)]
      rw [show ((a : Nat) : Int) + ((2 + w.length : Nat) : Int) = ((a + (2 + w.length) : Nat) : Int) by omega]
theorem take_cmd {p : List GType} {l : List UInt8} {a : Nat} (hl : l.length ≤ 100000) (hp : scB p) (ha : a < l.length) : match rdC p l[a] (l.drop (a + 1)) with
    | .inl e => e ≠ 0 ∧ ∃ c n, m_script_take p l (a : Int) = some (c, n, e)
    | .inr (c, n) => m_script_take p l (a : Int) = some (c, ((a + n : Nat) : Int), 0) := by
  unfold m_script_take m_script_take_j4 m_script_take_j7 m_script_take_j10 rdC
  rw [geti_lt ha, obind_some, kind_ok, obind_some, w64 (by omega) (by omega), show ((a : Nat) : Int) + 1 = ((a + 1 : Nat) : Int) by omega]
  generalize l[a] = k
  have hk0 : ∀ e : GEvent, kC (GCommand.mk k [] 0 0 e) = k.toNat := fun _ => rfl
  rw [hk0]
  by_cases hk : 1 ≤ k.toNat ∧ k.toNat ≤ 7
  · have H : ∀ t x y e, _ := fun t x y e => has_ok (GCommand.mk k t x y e) hk.2
    have hkc : ∀ t x y e, kC (GCommand.mk k t x y e) = k.toNat := fun _ _ _ _ => rfl
    have h1 : ∀ t x y e, m_script_Command_has (GCommand.mk k t x y e) 1 = some (decide (k.toNat = 1)) := fun t x y e => (H t x y e).1
    have h2 : ∀ t x y e, m_script_Command_has (GCommand.mk k t x y e) 2 = some (decide (k.toNat = 3)) := fun t x y e => (H t x y e).2.1
    have h4 : ∀ t x y e, m_script_Command_has (GCommand.mk k t x y e) 4 = some (decide (4 ≤ k.toNat)) := fun t x y e => (H t x y e).2.2.1
    have h8 : ∀ t x y e, m_script_Command_has (GCommand.mk k t x y e) 8 = some (decide (k.toNat = 4)) := fun t x y e => (H t x y e).2.2.2
    have bi : ∀ {α β : Type} (x : α) (f : α → Option β), Option.bind (some x) f = f x := fun _ _ => rfl
    rw [decide_eq_true hk, if_neg (by simpa using hk)]
    simp only [Bool.not_true, cond_false, h1, h2, h4, h8, bi]
    by_cases k1 : k.toNat = 1
    · have k3 : ¬ k.toNat = 3 := by omega
      have k4 : ¬ k.toNat = 4 := by omega
      have k5 : ¬ 4 ≤ k.toNat := by omega
      rw [if_pos k1, decide_eq_true k1, decide_eq_false k3, decide_eq_false k4, decide_eq_false k5, cond_true, words_ok hl (by omega)]
      cases q : strR (l.drop (a + 1)) with
      | none => exact ⟨by decide, _, _, rfl⟩
      | some w =>
        simp only
        by_cases c : 600 < w.length
        · rw [if_pos c, if_pos c]; exact ⟨by decide, _, _, rfl⟩
        · rw [if_neg c, if_neg c]
          simp only [bi, cond_false]
          rw [show a + 1 + (2 + w.length) = a + (3 + w.length) by omega]
          rfl
    by_cases k3 : k.toNat = 3
    · have k4 : ¬ k.toNat = 4 := by omega
      have k5 : ¬ 4 ≤ k.toNat := by omega
      rw [if_neg k1, if_pos k3, decide_eq_false k1, decide_eq_true k3, decide_eq_false k4, decide_eq_false k5, cond_false, cond_true, etake_ok _ hl hp, etk_drop hl (by omega)]
      simp only [bi, cond_false, Bool.cond_self]
      by_cases c : (etk p (l.drop (a + 1)) 0).2.2 = 0
      · obtain ⟨m, e1, _⟩ := etk_nn hp (by rw [List.length_drop]; omega) c
        rw [if_neg (by simp [c]), if_pos c, c, e1]
        simp only
        rw [show ((a + 1 : Nat) : Int) + ((m : Nat) : Int) = ((a + (1 + Int.toNat (m : Int)) : Nat) : Int) by omega]
      · rw [if_pos c]
        exact ⟨c, _, _, rfl⟩
    by_cases k2 : k.toNat = 2
    · have k4 : ¬ k.toNat = 4 := by omega
      have k5 : ¬ 4 ≤ k.toNat := by omega
      rw [if_neg k1, if_neg k3, if_pos k2, decide_eq_false k1, decide_eq_false k3, decide_eq_false k4, decide_eq_false k5]
      rfl
    have k5 : 4 ≤ k.toNat := by omega
    obtain ⟨x0, y0, z0⟩ := zt_step (l := l) (a := a + 1) (b := 0) (by omega)
    rw [Nat.add_zero, show (((0 : Nat)) : Int) = 0 from rfl] at x0 y0 z0
    rw [if_neg k1, if_neg k3, if_neg k2, decide_eq_false k1, decide_eq_false k3, decide_eq_true k5, cond_false, cond_false, cond_true, takeint_ok (by omega)]
    simp only [bi]
    rw [x0, y0]
    by_cases c : (ztk (l.drop (a + 1)) 0).2.2 ≠ 0
    · rw [if_pos c, decide_eq_false (by omega), cond_false]
      exact ⟨by omega, _, _, rfl⟩
    obtain ⟨w0, v0⟩ := z0 (by omega)
    rw [if_neg c, decide_eq_true (by omega), cond_true, w0]
    obtain ⟨x1, y1, z1⟩ := zt_step (l := l) (a := a + 1) (b := (ztk (l.drop (a + 1)) 0).2.1) (by omega)
    by_cases k4 : k.toNat = 4
    · rw [if_pos k4, decide_eq_true k4, cond_true, takeint_ok (by omega)]
      simp only [bi]
      rw [x1, y1]
      by_cases d : (ztk (l.drop (a + 1)) (((ztk (l.drop (a + 1)) 0).2.1 : Nat) : Int)).2.2 ≠ 0
      · rw [if_pos d]
        exact ⟨by omega, _, _, rfl⟩
      · obtain ⟨w1, v1⟩ := z1 (by omega)
        rw [if_neg d, w1, show (ztk (l.drop (a + 1)) (((ztk (l.drop (a + 1)) 0).2.1 : Nat) : Int)).2.2 = 0 by omega, Nat.add_assoc]
        rfl
    · rw [if_neg k4, decide_eq_false k4, cond_false, show (ztk (l.drop (a + 1)) 0).2.2 = 0 by omega, Nat.add_assoc]
      rfl
  · rw [decide_eq_false hk, if_pos hk]
    exact ⟨by decide, _, _, rfl⟩
end Go.Proofs.YtaaooafcijdbmaaDoor.K

namespace Go.Proofs.YtaaooafcijdbmaaDoor.K
open Go.RowKit Go.Lib
theorem one_cmd {p : List GType} {l : List UInt8} {a : Nat} (hl : l.length ≤ 100000) (hp : scB p) (ha : a < l.length) : match rdC p l[a] (l.drop (a + 1)) with
    | .inl e => ∃ c n, m_r37_one p l (a : Int) = some (c, n, e)
    | .inr (c, n) => m_r37_one p l (a : Int) = some (c, ((a + n : Nat) : Int), 0) := by
  have bi : ∀ {α β : Type} (x : α) (f : α → Option β), Option.bind (some x) f = f x := fun _ _ => rfl
  unfold m_r37_one m_r37_one_j7 rdC
  rw [geti_lt ha, obind_some, w64 (n := (a : Int) + 1) (by omega) (by omega), show ((a : Nat) : Int) + 1 = ((a + 1 : Nat) : Int) by omega]
  generalize l[a] = k
  by_cases hk : 1 ≤ k.toNat ∧ k.toNat ≤ 7
  · rw [d_nlt (by omega), cond_false, d_nlt (by omega), cond_false, if_neg (by simpa using hk)]
    by_cases k1 : k.toNat = 1
    · have e := cut_ok (l := l) (a := a + 1) (b := l.length) (by omega) (Nat.le_refl _)
      have h := rstr_ok (s := l.drop (a + 1)) (by simp; omega)
      have hw : ∀ w, strR (l.drop (a + 1)) = some w → w.length ≤ 100000 := fun w q => by
        unfold strR at q
        split at q
        · cases q
        · cases q; simp; omega
      rw [if_pos k1, decide_eq_true (by omega), cond_true, e, obind_some, List.take_of_length_le (by simp)]
      unfold m_r01_Open
      rw [obind_some]
      cases q : strR (l.drop (a + 1)) with
      | none =>
        rw [q] at h
        obtain ⟨g, g1, g2⟩ := h
        rw [g1, obind_some]
        simp only
        rw [g2]
        exact ⟨_, _, rfl⟩
      | some w =>
        have := hw w q
        rw [q] at h
        simp only at h ⊢
        rw [h, obind_some]
        simp only
        rw [decide_eq_false (p := ((0 : Int) ≠ 0)) (by decide), cond_false]
        by_cases c : 600 < w.length
        · rw [d_lt (by omega), cond_true, if_pos c]; exact ⟨_, _, rfl⟩
        · rw [d_nlt (by omega), cond_false, if_neg c, w64 (by omega) (by omega)]
          simp only
          rw [show ((a + 1 : Nat) : Int) + ((2 + w.length : Nat) : Int) = ((a + (3 + w.length) : Nat) : Int) by omega]
    rw [if_neg k1, decide_eq_false (p := ((k.toNat : Nat) : Int) = 1) (by omega), cond_false]
    by_cases k3 : k.toNat = 3
    · rw [if_pos k3, decide_eq_true (p := ((k.toNat : Nat) : Int) = 3) (by omega), cond_true, retake_ok _ hl hp, etk_drop hl (by omega), obind_some]
      simp only
      by_cases c : (etk p (l.drop (a + 1)) 0).2.2 = 0
      · obtain ⟨m, e1, _⟩ := etk_nn hp (by rw [List.length_drop]; omega) c
        rw [if_neg (by simp [c]), if_pos c, c, e1]
        simp only
        rw [show ((a + 1 : Nat) : Int) + ((m : Nat) : Int) = ((a + (1 + Int.toNat (m : Int)) : Nat) : Int) by omega]
      · rw [if_pos c]
        exact ⟨_, _, rfl⟩
    rw [if_neg k3, decide_eq_false (p := ((k.toNat : Nat) : Int) = 3) (by omega), cond_false]
    by_cases k2 : k.toNat = 2
    · rw [if_pos k2, decide_eq_false (p := (4 : Int) ≤ ((k.toNat : Nat) : Int)) (by omega), cond_false]
      simp only
      rw [decide_eq_false (p := ((k.toNat : Nat) : Int) = 4) (by omega)]
      rfl
    have z := ztk_lt l ((a + 1 : Nat) : Int)
    obtain ⟨x0, y0, z0⟩ := zt_step (l := l) (a := a + 1) (b := 0) (by omega)
    rw [Nat.add_zero, show (((0 : Nat)) : Int) = 0 from rfl] at x0 y0 z0
    rw [if_neg k2, decide_eq_true (p := (4 : Int) ≤ ((k.toNat : Nat) : Int)) (by omega), cond_true, rtake_ok (by omega), obind_some]
    unfold ztkI
    simp only
    rw [rback_ok z, obind_some, x0, y0]
    by_cases c : (ztk (l.drop (a + 1)) 0).2.2 ≠ 0
    · rw [if_pos c, decide_eq_false (p := ((((ztk (l.drop (a + 1)) 0).2.2 : Nat)) : Int) = 0) (by omega), cond_false]
      exact ⟨_, _, rfl⟩
    obtain ⟨w0, v0⟩ := z0 (by omega)
    rw [if_neg c, decide_eq_true (p := ((((ztk (l.drop (a + 1)) 0).2.2 : Nat)) : Int) = 0) (by omega), cond_true, w0]
    obtain ⟨x1, y1, z1⟩ := zt_step (l := l) (a := a + 1) (b := (ztk (l.drop (a + 1)) 0).2.1) (by omega)
    have zz := ztk_lt l ((a + 1 + (ztk (l.drop (a + 1)) 0).2.1 : Nat) : Int)
    by_cases k4 : k.toNat = 4
    · rw [if_pos k4, decide_eq_true (p := ((k.toNat : Nat) : Int) = 4) (by omega), cond_true, rtake_ok (by omega), obind_some]
      unfold ztkI
      simp only
      rw [rback_ok zz, obind_some, x1, y1]
      by_cases d : (ztk (l.drop (a + 1)) (((ztk (l.drop (a + 1)) 0).2.1 : Nat) : Int)).2.2 ≠ 0
      · rw [if_pos d]
        exact ⟨_, _, rfl⟩
      · obtain ⟨w1, v1⟩ := z1 (by omega)
        rw [if_neg d, w1, show (ztk (l.drop (a + 1)) (((ztk (l.drop (a + 1)) 0).2.1 : Nat) : Int)).2.2 = 0 by omega, Nat.add_assoc]
        rfl
    · rw [if_neg k4, decide_eq_false (p := ((k.toNat : Nat) : Int) = 4) (by omega), cond_false, show (ztk (l.drop (a + 1)) 0).2.2 = 0 by omega, Nat.add_assoc]
      rfl
  · rw [if_pos hk]
    by_cases c : k.toNat < 1
    · rw [d_lt (by omega), cond_true]; exact ⟨_, _, rfl⟩
    · rw [d_nlt (by omega), cond_false, d_lt (by omega), cond_true]; exact ⟨_, _, rfl⟩
theorem strR_some {s w : List UInt8} (h : strR s = some w) : 2 + w.length ≤ s.length ∧ s.take (2 + w.length) = beb 2 w.length ++ w := by
  unfold strR at h
  split at h
  · cases h
  rename_i c
  have c2 : 2 + beN 0 (s.take 2) ≤ s.length := by omega
  have bl := beB_beN 2 (s.take 2) (by simp; omega)
  generalize beN 0 (s.take 2) = n at h bl c2
  cases h
  have el : ((s.drop 2).take n).length = n := by simp; omega
  rw [el]
  exact ⟨c2, by rw [beb2, bl, List.take_add]⟩
theorem morC_of {k : UInt8} {t : List UInt8} {x y : Int} {e : GEvent} (h1 : k.toNat ≠ 1 → t = []) (h3 : k.toNat ≠ 3 → e = zeroE) (h4 : k.toNat < 4 → x = 0) (h8 : k.toNat ≠ 4 → y = 0) : morC (GCommand.mk k t x y e) = false := by
  have hk : kC (GCommand.mk k t x y e) = k.toNat := rfl
  unfold morC
  rw [hk]
  have a1 : (!decide (k.toNat = 1) && decide (t ≠ [])) = false := by
    by_cases c : k.toNat = 1
    · simp [c]
    · simp [h1 c]
  have a3 : (!decide (k.toNat = 3) && !decide (e = zeroE)) = false := by
    by_cases c : k.toNat = 3
    · simp [c]
    · simp [h3 c]
  have a4 : (!decide (4 ≤ k.toNat) && decide (x ≠ 0)) = false := by
    by_cases c : 4 ≤ k.toNat
    · simp [c]
    · simp [h4 (by omega)]
  have a8 : (!decide (k.toNat = 4) && decide (y ≠ 0)) = false := by
    by_cases c : k.toNat = 4
    · simp [c]
    · simp [h8 c]
  simp only
  rw [a1, a3, a4, a8]; rfl
theorem evO_zero : evO zeroE := ⟨by decide, by decide, by decide, by decide, by simp⟩
theorem i0 : -9223372036854775808 ≤ (0 : Int) ∧ (0 : Int) ≤ 9223372036854775807 := by decide
theorem zz_good {t : List UInt8} {b : Nat} (h : (ztk t (b : Int)).2.2 = 0) : ∃ m : Nat, (ztk t (b : Int)).2.1 = b + m ∧ b + m ≤ t.length ∧ (t.drop b).take m = zb (ztk t (b : Int)).1 := by
  obtain ⟨m, k, e1, e2, e3, e4⟩ := ztk_good h
  obtain rfl : m = b := by omega
  exact ⟨k, e3, e2, e4⟩
/-- What was read may be, and has just these bytes. -/
theorem rdC_good {p : List GType} {k : UInt8} {t : List UInt8} {c : GCommand} {n : Nat} (hp : scB p) (hs : schC p = 0) (hl : t.length ≤ 100000) (h : rdC p k t = .inr (c, n)) : 1 ≤ n ∧ n ≤ t.length + 1 ∧ cmO c ∧ chkC p c = 0 ∧ (k :: t).take n = cmS p c := by
  unfold rdC at h
  by_cases hk : 1 ≤ k.toNat ∧ k.toNat ≤ 7
  · rw [if_neg (by simpa using hk)] at h
    by_cases k1 : k.toNat = 1
    · rw [if_pos k1] at h
      cases q : strR t with
      | none => rw [q] at h; cases h
      | some w =>
        rw [q] at h
        simp only at h
        by_cases c6 : 600 < w.length
        · rw [if_pos c6] at h; cases h
        rw [if_neg c6] at h
        obtain ⟨q1, q2⟩ := strR_some q
        cases h
        refine ⟨by omega, by omega, ⟨by simp only; omega, i0, i0, evO_zero⟩, chk_of_parts hs hk (fun _ => by simp only; omega) (fun q => ?_) (morC_of (fun q => absurd k1 q) (fun _ => rfl) (fun _ => rfl) fun _ => rfl), ?_⟩
        · have : k.toNat = 3 := q
          omega
        · unfold cmS
          rw [if_pos (show kC (GCommand.mk k w 0 0 zeroE) = 1 from k1), show 3 + w.length = (2 + w.length) + 1 by omega, List.take_succ_cons, q2]
    rw [if_neg k1] at h
    by_cases k3 : k.toNat = 3
    · rw [if_pos k3] at h
      by_cases c0 : (etk p t 0).2.2 ≠ 0
      · rw [if_pos c0] at h; cases h
      rw [if_neg c0] at h
      obtain ⟨m, e1, e2, g, o, e3⟩ := etk_nn hp hl (by omega : (etk p t 0).2.2 = 0)
      rw [e1, Int.toNat_natCast] at h
      generalize (etk p t 0).1 = e at h g o e3
      cases h
      refine ⟨by omega, by omega, ⟨by simp, i0, i0, o⟩, chk_of_parts hs hk (fun q => absurd q k1) (fun _ => g.zero) (morC_of (fun _ => rfl) (fun q => absurd k3 q) (fun _ => rfl) fun _ => rfl), ?_⟩
      unfold cmS
      rw [if_neg (show ¬ kC (GCommand.mk k [] 0 0 e) = 1 from k1), if_pos (show kC (GCommand.mk k [] 0 0 e) = 3 from k3), Nat.add_comm, List.take_succ_cons, e3]
    rw [if_neg k3] at h
    by_cases k2 : k.toNat = 2
    · rw [if_pos k2] at h
      cases h
      refine ⟨by omega, by omega, ⟨by simp, i0, i0, evO_zero⟩, chk_of_parts hs hk (fun q => absurd q k1) (fun q => absurd q k3) (morC_of (fun _ => rfl) (fun _ => rfl) (fun _ => rfl) fun _ => rfl), ?_⟩
      unfold cmS
      have e : kC (GCommand.mk k [] 0 0 zeroE) = 2 := k2
      rw [e]
      rfl
    rw [if_neg k2] at h
    by_cases c0 : (ztk t 0).2.2 ≠ 0
    · rw [if_pos c0] at h; cases h
    rw [if_neg c0] at h
    obtain ⟨m, e1, e2, e3⟩ := zz_good (t := t) (b := 0) (by simpa using c0)
    rw [Int.natCast_zero] at e1 e3
    have zl := ztk_lt t 0
    rw [Nat.zero_add] at e1 e2
    rw [List.drop_zero] at e3
    generalize (ztk t 0).1 = u at h e3 zl
    rw [e1] at h
    by_cases k4 : k.toNat = 4
    · rw [if_pos k4] at h
      by_cases c1 : (ztk t (m : Int)).2.2 ≠ 0
      · rw [if_pos c1] at h; cases h
      rw [if_neg c1] at h
      obtain ⟨m2, f1, f2, f3⟩ := zz_good (t := t) (b := m) (by simpa using c1)
      have zl2 := ztk_lt t (m : Int)
      generalize (ztk t (m : Int)).1 = u2 at h f3 zl2
      rw [f1] at h
      cases h
      refine ⟨by omega, by omega, ⟨by simp, ⟨zback_lo _ zl, zback_hi _ zl⟩, ⟨zback_lo _ zl2, zback_hi _ zl2⟩, evO_zero⟩, chk_of_parts hs hk (fun q => absurd q k1) (fun q => absurd q k3) (morC_of (fun _ => rfl) (fun _ => rfl) (fun q => by omega) fun q => absurd k4 q), ?_⟩
      unfold cmS
      have e : kC (GCommand.mk k [] (zback u) (zback u2) zeroE) = 4 := k4
      rw [e]
      simp only
      rw [zfold_back, zfold_back, if_neg (by decide), if_neg (by decide), if_pos (by decide)]
      simp only [if_true]
      rw [Nat.add_comm 1, List.take_succ_cons, List.take_add, e3, f3]
    · rw [if_neg k4] at h
      cases h
      have e : kC (GCommand.mk k [] (zback u) 0 zeroE) = k.toNat := rfl
      refine ⟨by omega, by omega, ⟨by simp, ⟨zback_lo _ zl, zback_hi _ zl⟩, i0, evO_zero⟩, chk_of_parts hs hk (fun q => absurd q k1) (fun q => absurd q k3) (morC_of (fun _ => rfl) (fun _ => rfl) (fun q => by omega) fun _ => rfl), ?_⟩
      unfold cmS
      rw [e]
      simp only
      rw [zfold_back, if_neg k1, if_neg k3, if_pos (by omega), if_neg k4, List.append_nil, Nat.add_comm 1, List.take_succ_cons, e3]
  · rw [if_pos hk] at h; cases h
end Go.Proofs.YtaaooafcijdbmaaDoor.K

namespace Go.Proofs.YtaaooafcijdbmaaDoor.K
open Go.RowKit Go.Lib
/-- The commands that some bytes are, at most so many. -/
def rdL (p : List GType) : Nat → List UInt8 → List GCommand × Nat × Int
  | _, [] => ([], 0, 0)
  | 0, _ :: _ => ([], 0, 5)
  | f + 1, k :: t => match rdC p k t with
    | .inl e => ([], 0, e)
    | .inr (c, n) => (c :: (rdL p f ((k :: t).drop n)).1, n + (rdL p f ((k :: t).drop n)).2.1, (rdL p f ((k :: t).drop n)).2.2)
theorem rd_loop {p : List GType} {l : List UInt8} {L : Nat → List GCommand → Int → Option (List GCommand × Int × Int)} (hp : scB p) (hs : schC p = 0) (hl : l.length ≤ 100000)
    (hend : ∀ fu s, L (fu + 1) s (l.length : Int) = some (s, (l.length : Int), 0))
    (hfull : ∀ fu s a (h : a < l.length), s.length = 400 → L (fu + 1) s (a : Int) = some (s, (a : Int), 5))
    (hbad : ∀ fu s a (h : a < l.length) e, s.length ≠ 400 → rdC p l[a] (l.drop (a + 1)) = .inl e → L (fu + 1) s (a : Int) = some (s, (a : Int), e))
    (hgood : ∀ fu s a (h : a < l.length) c n, s.length < 400 → rdC p l[a] (l.drop (a + 1)) = .inr (c, n) → L (fu + 1) s (a : Int) = L fu (s ++ [c]) ((a + n : Nat) : Int)) :
    ∀ (f fu a : Nat) (s : List GCommand), s.length + f = 400 → f < fu → a ≤ l.length → L fu s (a : Int) = some (s ++ (rdL p f (l.drop a)).1, ((a + (rdL p f (l.drop a)).2.1 : Nat) : Int), (rdL p f (l.drop a)).2.2)
  | f, 0, a, s, _, h, _ => by omega
  | 0, fu + 1, a, s, h1, _, ha => by
    by_cases c : a < l.length
    · rw [hfull fu s a c (by omega), drop_cons c, rdL]; simp
    · obtain rfl : a = l.length := by omega
      rw [hend, List.drop_of_length_le (Nat.le_refl _), rdL]; simp
  | f + 1, fu + 1, a, s, h1, h2, ha => by
    by_cases c : a < l.length
    · cases q : rdC p l[a] (l.drop (a + 1)) with
      | inl e => rw [hbad fu s a c e (by omega) q, drop_cons c, rdL, q]; simp
      | inr r =>
        obtain ⟨cm, n⟩ := r
        obtain ⟨n1, n2, _⟩ := rdC_good hp hs (by rw [List.length_drop]; omega) q
        rw [List.length_drop] at n2
        rw [hgood fu s a c cm n (by omega) q, rd_loop hp hs hl hend hfull hbad hgood f fu (a + n) _ (by simp; omega) (by omega) (by omega)]
        have e : rdL p (f + 1) (l.drop a) = (cm :: (rdL p f (l.drop (a + n))).1, n + (rdL p f (l.drop (a + n))).2.1, (rdL p f (l.drop (a + n))).2.2) := by
          rw [drop_cons c, rdL, q]
          simp only
          rw [← drop_cons c, List.drop_drop]
        rw [e]
        simp only
        rw [List.append_assoc, Nat.add_assoc]; rfl
    · obtain rfl : a = l.length := by omega
      rw [hend, List.drop_of_length_le (Nat.le_refl _), rdL]; simp
def rdA (p : List GType) (l : List UInt8) : List GCommand × Int × Int := if schC p ≠ 0 then ([], 0, 2) else ((rdL p 400 l).1, (((rdL p 400 l).2.1 : Nat) : Int), (rdL p 400 l).2.2)
theorem read_ok {p : List GType} {l : List UInt8} (hp : scB p) (hl : l.length ≤ 100000) : m_script_Read p l = some (rdA p l) := by
  have hL := hp.L
  unfold m_script_Read rdA
  rw [scheck_ok hp.L' hp.F, obind_some]
  by_cases s : schC p = 0
  · rw [decide_eq_false (by simp [s]), cond_false, if_neg (by simp [s])]
    have := rd_loop (L := m_script_Read_l1 p l) hp s hl
      (fun fu s => by unfold m_script_Read_l1; rw [d_nlt (by omega)]; rfl)
      (fun fu s a h hs => by unfold m_script_Read_l1; rw [d_lt (by omega), cond_true, decide_eq_true (by omega)]; rfl)
      (fun fu s a h e hs q => by
        have t := take_cmd hl hp h
        rw [q] at t
        obtain ⟨t0, c, n, t1⟩ := t
        unfold m_script_Read_l1
        rw [d_lt (by omega), cond_true, decide_eq_false (by omega), cond_false, t1, obind_some]
        simp only
        rw [decide_eq_true t0]; rfl)
      (fun fu s a h c n hs q => by
        have t := take_cmd hl hp h
        rw [q] at t
        simp only at t
        conv => lhs; unfold m_script_Read_l1
        rw [d_lt (by omega), cond_true, decide_eq_false (by omega), cond_false, t, obind_some]
        simp only
        rw [decide_eq_false (by decide), cond_false, app_ok (by simp; omega), obind_some]) 400 1152921504606846976 0 [] (by simp) (by omega) (by omega)
    simpa using this
  · rw [decide_eq_true s, if_pos s]; rfl
theorem rread_ok {p : List GType} {l : List UInt8} (hp : scB p) (hl : l.length ≤ 100000) : m_r37_Read p l = some (rdA p l) := by
  have hL := hp.L
  unfold m_r37_Read rdA
  rw [rscheck_ok hp.L' hp.F, obind_some]
  by_cases s : schC p = 0
  · rw [decide_eq_false (by simp [s]), cond_false, if_neg (by simp [s])]
    have := rd_loop (L := m_r37_Read_l1 p l) hp s hl
      (fun fu s => by unfold m_r37_Read_l1; rw [d_nlt (by omega)]; rfl)
      (fun fu s a h hs => by unfold m_r37_Read_l1; rw [d_lt (by omega), cond_true, decide_eq_true (by omega)]; rfl)
      (fun fu s a h e hs q => by
        have t := one_cmd hl hp h
        have t0 := take_cmd hl hp h
        rw [q] at t t0
        obtain ⟨t0, _⟩ := t0
        obtain ⟨c, n, t1⟩ := t
        unfold m_r37_Read_l1
        rw [d_lt (by omega), cond_true, decide_eq_false (by omega), cond_false, t1, obind_some]
        simp only
        rw [decide_eq_true t0]; rfl)
      (fun fu s a h c n hs q => by
        have t := one_cmd hl hp h
        rw [q] at t
        simp only at t
        conv => lhs; unfold m_r37_Read_l1
        rw [d_lt (by omega), cond_true, decide_eq_false (by omega), cond_false, t, obind_some]
        simp only
        rw [decide_eq_false (by decide), cond_false, app_ok (by simp; omega), obind_some]) 400 1152921504606846976 0 [] (by simp) (by omega) (by omega)
    simpa using this
  · rw [decide_eq_true s, if_pos s]; rfl
/-- The bytes of many. -/
def cmB (p : List GType) (l : List GCommand) : List UInt8 := l.flatMap (cmS p)
theorem rdL_good {p : List GType} (hp : scB p) (hs : schC p = 0) : ∀ (f : Nat) (l : List UInt8), l.length ≤ 100000 → (rdL p f l).2.1 ≤ l.length ∧ (rdL p f l).1.length ≤ f ∧ (∀ c ∈ (rdL p f l).1, cmO c ∧ chkC p c = 0) ∧ cmB p (rdL p f l).1 = l.take (rdL p f l).2.1 ∧ ((rdL p f l).2.2 = 0 → (rdL p f l).2.1 = l.length)
  | 0, [], _ => by rw [rdL]; simp [cmB]
  | _ + 1, [], _ => by rw [rdL]; simp [cmB]
  | 0, k :: t, _ => by rw [rdL]; simp [cmB]
  | f + 1, k :: t, hl => by
    rw [List.length_cons] at hl
    cases q : rdC p k t with
    | inl e =>
      have ne : e ≠ 0 := by
        have := take_cmd (p := p) (l := k :: t) (a := 0) (by simp; omega) hp (by simp)
        rw [show (k :: t)[0] = k from rfl, show (k :: t).drop (0 + 1) = t from rfl, q] at this
        exact this.1
      rw [rdL, q]
      simp [cmB, ne]
    | inr r =>
      obtain ⟨c, n⟩ := r
      obtain ⟨n1, n2, n3, n4, n5⟩ := rdC_good hp hs (by omega) q
      have ih := rdL_good hp hs f ((k :: t).drop n) (by rw [List.length_drop, List.length_cons]; omega)
      rw [rdL, q]
      simp only
      generalize rdL p f ((k :: t).drop n) = r at ih
      obtain ⟨rc, rn, re⟩ := r
      simp only at ih ⊢
      obtain ⟨i1, i2, i3, i4, i5⟩ := ih
      rw [List.length_drop, List.length_cons] at i1 i5
      refine ⟨by rw [List.length_cons]; omega, by simp; omega, fun x hx => ?_, ?_, fun h => by rw [List.length_cons]; have := i5 h; omega⟩
      · rcases List.mem_cons.1 hx with rfl | hx
        · exact ⟨n3, n4⟩
        · exact i3 x hx
      · unfold cmB at i4 ⊢
        rw [List.flatMap_cons, i4, ← n5, ← List.take_add]
/-- All that was read is well. -/
theorem rdA_good {p : List GType} {l : List UInt8} (hp : scB p) (hl : l.length ≤ 100000) : ∃ n : Nat, (rdA p l).2.1 = (n : Int) ∧ n ≤ l.length ∧ (rdA p l).1.length ≤ 400 ∧ (∀ c ∈ (rdA p l).1, cmO c ∧ chkC p c = 0) ∧ cmB p (rdA p l).1 = l.take n ∧ ((rdA p l).2.2 = 0 → n = l.length) := by
  unfold rdA
  by_cases s : schC p = 0
  · rw [if_neg (by simp [s])]
    obtain ⟨i1, i2, i3, i4, i5⟩ := rdL_good hp s 400 l hl
    exact ⟨_, rfl, i1, i2, i3, i4, i5⟩
  · rw [if_pos s]
    exact ⟨0, rfl, Nat.zero_le _, by simp, by simp, by simp [cmB], fun h => by simp at h⟩
end Go.Proofs.YtaaooafcijdbmaaDoor.K

namespace Go.Proofs.YtaaooafcijdbmaaDoor.K
open Go.RowKit Go.Lib
theorem back37_ok {l : List GCommand} (hl : l.length ≤ 1000) (hO : ∀ c ∈ l, cmO c) : m_w37_Back l = some l := by
  have := map_loop (L := fun fu s i => m_w37_Back_l0 l fu s i) (l := l) (f := id) (e := id) (by omega) (fun fu s => by unfold m_w37_Back_l0; rw [d_nlt (by omega)]; rfl)
    (fun fu s i h hs => by
      have hn := (hO l[i] (List.getElem_mem h)).E.L
      conv => lhs; unfold m_w37_Back_l0
      rw [d_lt (by omega), cond_true, geti_lt h, obind_some, back_ok (by omega), obind_some, app_ok (by simp; omega), obind_some, inc_ok (by omega)]; rfl)
  rw [List.map_id] at this; exact this
theorem sameAll_37 {a : List GCommand} (hl : a.length ≤ 1000) (hO : ∀ c ∈ a, cmO c) : m_r37_SameAll a a = some true := by
  unfold m_r37_SameAll
  rw [decide_eq_false (by simp), cond_false]
  have := eq_loop (L := fun fu i => m_r37_SameAll_l1 a a fu i) (a := a) (b := a) rfl (by omega)
    (fun fu => by unfold m_r37_SameAll_l1; rw [d_nlt (by omega)]; rfl)
    (fun fu i i1 i2 => by
      have hn := (hO a[i] (List.getElem_mem i1)).E.L
      conv => lhs; unfold m_r37_SameAll_l1
      rw [d_lt (by omega), cond_true, geti_lt i1, obind_some, obind_some, (csame_ok (by omega) (by omega)).2, obind_some, inc_ok (by omega), if_pos rfl, decide_eq_true rfl]; rfl)
  rw [show m_r37_SameAll_l1 a a 1152921504606846976 0 = some (decide (a = a)) from this, decide_eq_true rfl]
theorem main_ScriptReads (p : List GType) (s : List UInt8) (wp : wfL wf_GType p) (ws : s.length ≤ maxLen) : m_w37_ScriptReads p s = some true := by
  unfold m_w37_ScriptReads
  rw [awk37]
  obtain ⟨r, e1, q⟩ := over06_ok wp.1 fun t ht => wf_tyM (wp.2 t ht)
  rw [e1, obind_some]
  rcases q with rfl | ⟨rfl, hp⟩
  · rfl
  rw [d_nlt (by decide), cond_false]
  by_cases hl : 900 < s.length
  · rw [d_lt (by omega)]; rfl
  rw [d_nlt (by omega), cond_false, own06_ok hp, obind_some, read_ok hp (by omega), obind_some, rread_ok hp (by omega), obind_some]
  obtain ⟨n, h1, h2, h3, h4, _⟩ := rdA_good (p := p) (l := s) hp (by omega)
  rw [back37_ok (by omega) fun c hc => (h4 c hc).1, obind_some, sameAll_37 (by omega) fun c hc => (h4 c hc).1, obind_some, cond_true, decide_eq_true rfl, cond_true, decide_eq_true rfl, cond_true]
  rfl
end Go.Proofs.YtaaooafcijdbmaaDoor.K

namespace Go.Proofs.YtaaooafcijdbmaaDoor
open Go.ChangeShapes Go.WideShapes Go.ChangeAt Go.RowKit
def partL : List Nat := [0, 1, 0, 2, 12, 4, 4, 4]
theorem laid_list {H : Type} : (Rows.laid_telltale_script_parts : DataW H) = .agg (partL.map fun (n : Nat) => .lit (.int .u8 (n : Int))) := rfl
theorem partsType : (Tryd.prog.globals[0]?).map (·.type) = some 100 := by kernel_rfl
theorem gw_of_laid {W : World} (h : laidMet Tryd.prog Rows.scriptWritesRow.laid W) : K.GW (fun b => b < W.heap.size) W := by
  obtain ⟨ps, ⟨g, t, cs, fuel, p, q, hg, ht, hvar, hd, _, _⟩, _⟩ := h
  obtain rfl : 0 = g := Option.some.inj (Eq.trans (by kernel_rfl) hg)
  obtain rfl := Option.some.inj (partsType.symm.trans ht)
  obtain ⟨xs, m, _, hx, hlen, hxl, hi⟩ := DataW.trod_array Tryd.underlying100 hd
  have hc5 : Tryd.prog.cellsOf 5 = 1 := by kernel_rfl
  have hc : Tryd.prog.cellsOf 100 = 8 := by kernel_rfl
  rw [hc] at hlen
  have hmap : (partL.map fun (n : Nat) => (DataW.lit (.int .u8 (n : Int)) : DataW Unit)) = xs.map (·.1) := by
    have := (Prod.mk.inj hx).1
    rw [laid_list] at this
    exact DataW.agg.inj this
  have key : ∀ i : Nat, i < 8 → ∀ n : Nat, partL[i]? = some n → W.cell? ⟨0, i, none⟩ = some (.int .u8 (n : Int)) := fun i hlt n hn => by
    have h1 := hi i hlt
    rw [hc5, Nat.mul_one, List.getElem?_eq_getElem (by omega)] at h1
    obtain ⟨a, h2, h3, _⟩ := DataW.trod_int Tryd.underlying5 h1
    have h4 := congrArg (·[i]?) hmap
    simp only [List.getElem?_map, hn, Option.map_some, List.getElem?_eq_getElem (show i < xs.length by omega), h3, Option.some.injEq] at h4
    simp only [DataW.lit.injEq, Lit.int.injEq, true_and] at h4
    have h5 : ((n : Nat) : Int) = a := h4
    rw [World.var?_cell hg hvar i]
    have h6 := congrArg (·[0]?) h2
    simp only [List.getElem?_take, List.getElem?_drop] at h6
    simpa [h5] using h6
  have hsz : 0 < W.heap.size := by
    have := key 0 (by decide) 0 rfl
    unfold World.cell? at this
    cases hb : W.heap[0]? with
    | none => simp [hb] at this
    | some o => exact (Array.getElem?_eq_some_iff.1 hb).1
  intro g ds e
  match g, e with
  | 0, e =>
    cases e
    refine K.RepDs.of _ _ _ fun j c hj => ?_
    have hj8 : j < 8 := (List.getElem?_eq_some_iff.1 hj).1
    have : ∃ n, partL[j]? = some n ∧ c = .lit (.int .u8 (n : Int)) := by
      have j8 : j = 0 ∨ j = 1 ∨ j = 2 ∨ j = 3 ∨ j = 4 ∨ j = 5 ∨ j = 6 ∨ j = 7 := by omega
      rcases j8 with rfl | rfl | rfl | rfl | rfl | rfl | rfl | rfl <;> cases hj <;> exact ⟨_, rfl, rfl⟩
    obtain ⟨n, hn, rfl⟩ := this
    refine ⟨_, _, rfl, ?_, hsz, rfl, by unfold K.RepD; exact ⟨rfl, rfl⟩⟩
    rw [K.addr_add, Nat.zero_add, Nat.zero_add]
    exact key j hj8 n hn
  | g + 1, e => cases e
/-- The settled world, but the variable holds what the row lists. -/
def setParts : Obj → Obj
  | .cells _ t frozen => .cells (partL.map fun (n : Nat) => Value.int .u8 (n : Int)).toArray t frozen
  | o => o
theorem laid_met (os : Os) (args : Array Value) : laidMet Tryd.prog Rows.scriptWritesRow.laid (({ World.holding Tryd.prog os ⟨#[], #[], []⟩ with heap := (World.holding Tryd.prog os ⟨#[], #[], []⟩).heap.modify 0 setParts } : World).forCall (fun _ _ => 0) ⟨#[], args, []⟩).memory :=
  laidMet_of_run (ps := (List.range 8).map fun i => .cell 0 i) 12 (by kernel_rfl) (by kernel_rfl) (by kernel_rfl)
end Go.Proofs.YtaaooafcijdbmaaDoor
