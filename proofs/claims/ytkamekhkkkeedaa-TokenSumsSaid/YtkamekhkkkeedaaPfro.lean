/- Frontiers, by what is at the points: plain. -/
import Derived.Test.YtkamekhkkkeedaaPtal
namespace Go.Proofs.Ytkamekhkkkeedaa.K
open Go.RowKit Go.Lib
set_option linter.unusedVariables false
set_option linter.unusedSimpArgs false
def leads (a b : Int) : Bool := decide (0 ≤ a) && (decide (a ≤ b) && decide (b ≤ 3))
theorem leads_ok (a b : Int) : m_front_Leads a b = some (leads a b) := by
  unfold m_front_Leads leads
  by_cases h1 : 0 ≤ a
  · by_cases h2 : a ≤ b
    · rw [decide_eq_true h1, decide_eq_true h2, cond_true, cond_true]
      congr 1
      by_cases h3 : b ≤ 3
      · rw [decide_eq_true h3, decide_eq_true (by omega)]; rfl
      · rw [decide_eq_false h3, decide_eq_false (by omega)]; rfl
    · rw [decide_eq_true h1, decide_eq_false h2, cond_true, cond_false]; rfl
  · rw [decide_eq_false h1, cond_false]; rfl
/-- The least moment of those that q picks, and d. -/
def fmin (q : GChange → Bool) : List GChange → Int → Int
  | [], d => d
  | x :: l, d => fmin q l (if q x then min d x.Time else d)
theorem fmin_spec (q : GChange → Bool) : ∀ (l : List GChange) (d : Int), fmin q l d ≤ d ∧ (∀ x ∈ l, q x = true → fmin q l d ≤ x.Time) ∧ (fmin q l d = d ∨ ∃ x ∈ l, q x = true ∧ fmin q l d = x.Time)
  | [], d => ⟨Int.le_refl _, by simp, .inl rfl⟩
  | y :: l, d => by
    obtain ⟨h1, h2, h3⟩ := fmin_spec q l (if q y then min d y.Time else d)
    unfold fmin
    refine ⟨?_, fun x hx hq => ?_, ?_⟩
    · refine Int.le_trans h1 ?_
      split <;> omega
    · rcases List.mem_cons.1 hx with rfl | hx
      · rw [if_pos hq] at h1 ⊢; omega
      · exact h2 x hx hq
    · rcases h3 with h3 | ⟨x, hx, hq, e⟩
      · rw [h3]
        by_cases hy : q y = true
        · rw [if_pos hy]
          by_cases h : d ≤ y.Time
          · exact .inl (by omega)
          · exact .inr ⟨y, by simp, hy, by omega⟩
        · rw [if_neg hy]; exact .inl rfl
      · exact .inr ⟨x, by simp [hx], hq, e⟩
/-- Two that pick the same moments have the same least one. -/
theorem fmin_congr {q r : GChange → Bool} {l m : List GChange} {d : Int} (h1 : ∀ x ∈ l, q x = true → ∃ y ∈ m, r y = true ∧ y.Time = x.Time) (h2 : ∀ y ∈ m, r y = true → ∃ x ∈ l, q x = true ∧ x.Time = y.Time) : fmin q l d = fmin r m d := by
  obtain ⟨a1, a2, a3⟩ := fmin_spec q l d
  obtain ⟨b1, b2, b3⟩ := fmin_spec r m d
  have : fmin q l d ≤ fmin r m d := by
    rcases b3 with e | ⟨y, hy, hr, e⟩
    · omega
    · obtain ⟨x, hx, hq, e2⟩ := h2 y hy hr
      have := a2 x hx hq; omega
  have : fmin r m d ≤ fmin q l d := by
    rcases a3 with e | ⟨y, hy, hr, e⟩
    · omega
    · obtain ⟨x, hx, hq, e2⟩ := h1 y hy hr
      have := b2 x hx hq; omega
  omega
/-- What is there, and where it goes to. -/
def there (l : List GChange) (loc : Int) (x : GChange) : Bool := leads x.Loc loc && decide (0 < atp l x.Loc x.Time)
/-- The frontier at a place. -/
def frn (l : List GChange) (loc : Int) : Int := max 0 (fmin (there l loc) l 1099511627777)
theorem at_pos {l : List GChange} {a b : Int} (h : 0 < atp l a b) : ∃ x ∈ l, x.Loc = a ∧ x.Time = b := by
  refine Classical.byContradiction fun hn => ?_
  have := atp_none (l := l) (a := a) (b := b) fun x hx e => hn ⟨x, hx, e⟩
  omega
theorem frn_congr {l r : List GChange} (h : ∀ a b, atp l a b = atp r a b) (loc : Int) : frn l loc = frn r loc := by
  unfold frn
  congr 1
  have one : ∀ {l r : List GChange}, (∀ a b, atp l a b = atp r a b) → ∀ x ∈ l, there l loc x = true → ∃ y ∈ r, there r loc y = true ∧ y.Time = x.Time := fun {l r} h x hx hq => by
    unfold there at hq ⊢
    simp only [Bool.and_eq_true, decide_eq_true_eq] at hq ⊢
    obtain ⟨y, hy, e1, e2⟩ := at_pos (l := r) (a := x.Loc) (b := x.Time) (by rw [← h]; exact hq.2)
    exact ⟨y, hy, ⟨by rw [e1]; exact hq.1, by rw [e1, e2, ← h]; exact hq.2⟩, e2⟩
  exact fmin_congr (one h) (one fun a b => (h a b).symm)
/-- What stands in a frontier. -/
theorem frn_spec (l : List GChange) (loc : Int) : (0 ≤ frn l loc ∧ frn l loc ≤ 1099511627777) ∧ (∀ a b, leads a loc = true → 0 < atp l a b → frn l loc ≤ max 0 b) ∧ (frn l loc = 1099511627777 ∨ ∃ a b, leads a loc = true ∧ 0 < atp l a b ∧ frn l loc = max 0 b) := by
  obtain ⟨a1, a2, a3⟩ := fmin_spec (there l loc) l 1099511627777
  unfold frn
  refine ⟨by omega, fun a b hl hp => ?_, ?_⟩
  · obtain ⟨x, hx, e1, e2⟩ := at_pos hp
    have := a2 x hx (by unfold there; rw [e1, e2, hl]; simpa using hp)
    omega
  · rcases a3 with e | ⟨x, hx, hq, e⟩
    · exact .inl (by omega)
    · unfold there at hq
      simp only [Bool.and_eq_true, decide_eq_true_eq] at hq
      exact .inr ⟨x.Loc, x.Time, hq.1, hq.2, by omega⟩
theorem of_ok {l : List GChange} (h : small l) (loc : Int) : m_front_Of l loc = some (frn l loc) := by
  unfold m_front_Of
  rw [normal_ok h, obind_some]
  have hl := nrm_len l
  have hs := h.1
  have key := loopG_0 (L := fun fu s i => m_front_Of_l1 loc (nrm l) fu s i) (n := (nrm l).length) (P := fun i s o => o = some (max (fmin (fun x => decide (0 < x.N) && leads x.Loc loc) ((nrm l).drop i) s) 0)) (by omega)
    (fun fu s => by unfold m_front_Of_l1; rw [d_nlt (by omega), cond_false]; simp [fmin])
    (fun fu s i hi ih => by
      unfold m_front_Of_l1
      rw [d_lt (by omega), cond_true, geti_lt hi, obind_some, drop_cons hi]
      unfold fmin
      by_cases h1 : 0 < (nrm l)[i].N
      · rw [d_lt h1, cond_true, leads_ok, obind_some]
        by_cases h2 : leads (nrm l)[i].Loc loc = true
        · rw [h2, cond_true]
          by_cases h3 : (nrm l)[i].Time < s
          · rw [d_lt h3, cond_true, inc_ok (by omega), ih]
            simp only [Bool.true_and, if_true]
            rw [show min s (nrm l)[i].Time = (nrm l)[i].Time by omega]
          · rw [d_nlt h3, cond_false, inc_ok (by omega), ih]
            simp only [Bool.true_and, if_true]
            rw [show min s (nrm l)[i].Time = s by omega]
        · have h2 : leads (nrm l)[i].Loc loc = false := by simpa using h2
          rw [h2, cond_false]
          unfold m_front_Of_j4
          rw [inc_ok (by omega)]
          refine (ih s).trans ?_
          simp
      · rw [d_nlt h1, cond_false]
        unfold m_front_Of_j4
        rw [inc_ok (by omega)]
        refine (ih s).trans ?_
        simp) 1099511627777
  rw [key, List.drop_zero]
  congr 1
  unfold frn
  rw [show ∀ a b : Int, max a b = max b a by omega]
  congr 1
  have hn := nrm_norm l
  refine fmin_congr (fun x hx hq => ?_) fun y hy hq => ?_
  · simp only [Bool.and_eq_true, decide_eq_true_eq] at hq
    obtain ⟨y, hy, e1, e2⟩ := nrm_pt hx
    have := strict_at hn.1 hx
    rw [nrm_at] at this
    refine ⟨y, hy, ?_, e2.symm⟩
    unfold there
    rw [← e1, ← e2, this, hq.2]; simpa using hq.1
  · unfold there at hq
    simp only [Bool.and_eq_true, decide_eq_true_eq] at hq
    obtain ⟨x, hx, e1, e2⟩ := at_pos (l := nrm l) (a := y.Loc) (b := y.Time) (by rw [nrm_at]; exact hq.2)
    have := strict_at hn.1 hx
    rw [e1, e2, nrm_at] at this
    refine ⟨x, hx, ?_, e2⟩
    simp only [Bool.and_eq_true, decide_eq_true_eq]
    exact ⟨by omega, by rw [e1]; exact hq.1⟩
def frnAll (l : List GChange) : GArr4_Int := ⟨frn l 0, frn l 1, frn l 2, frn l 3⟩
theorem all_ok {l : List GChange} (h : small l) : m_front_All l = some (frnAll l) := by
  unfold m_front_All
  show m_front_All_l0 l (1152921504606846971 + 1 + 1 + 1 + 1 + 1) _ 0 = _
  have e1 : IntKind.i64.wrap (0 + 1) = 1 := w64 (by omega) (by omega)
  have e2 : IntKind.i64.wrap (1 + 1) = 2 := w64 (by omega) (by omega)
  have e3 : IntKind.i64.wrap (2 + 1) = 3 := w64 (by omega) (by omega)
  have e4 : IntKind.i64.wrap (3 + 1) = 4 := w64 (by omega) (by omega)
  unfold m_front_All_l0
  rw [decide_eq_true (by omega), cond_true, of_ok h, obind_some, decide_eq_true rfl, cond_true, e1]
  unfold m_front_All_l0
  rw [decide_eq_true (by omega), cond_true, of_ok h, obind_some, decide_eq_false (by omega), cond_false, decide_eq_true rfl, cond_true, e2]
  unfold m_front_All_l0
  rw [decide_eq_true (by omega), cond_true, of_ok h, obind_some, decide_eq_false (by omega), cond_false, decide_eq_false (by omega), cond_false, decide_eq_true rfl, cond_true, e3]
  unfold m_front_All_l0
  rw [decide_eq_true (by omega), cond_true, of_ok h, obind_some, decide_eq_false (by omega), cond_false, decide_eq_false (by omega), cond_false, decide_eq_false (by omega), cond_false, decide_eq_true rfl, cond_true, e4]
  unfold m_front_All_l0
  rw [decide_eq_false (by omega), cond_false]; rfl
/-- A frontier went back. -/
def dropsB (a b : List GChange) : Bool := decide (frn b 0 < frn a 0) || (decide (frn b 1 < frn a 1) || (decide (frn b 2 < frn a 2) || decide (frn b 3 < frn a 3)))
theorem dropsB_iff {a b : List GChange} : dropsB a b = true ↔ ∃ k : Int, 0 ≤ k ∧ k ≤ 3 ∧ frn b k < frn a k := by
  unfold dropsB
  simp only [Bool.or_eq_true, decide_eq_true_eq]
  constructor
  · rintro (h | h | h | h)
    · exact ⟨0, by omega, by omega, h⟩
    · exact ⟨1, by omega, by omega, h⟩
    · exact ⟨2, by omega, by omega, h⟩
    · exact ⟨3, by omega, by omega, h⟩
  · rintro ⟨k, h1, h2, h⟩
    have : k = 0 ∨ k = 1 ∨ k = 2 ∨ k = 3 := by omega
    rcases this with rfl | rfl | rfl | rfl
    · exact .inl h
    · exact .inr (.inl h)
    · exact .inr (.inr (.inl h))
    · exact .inr (.inr (.inr h))
theorem drops_ok {a b : List GChange} (ha : small a) (hb : small b) : m_front_Drops a b = some (dropsB a b) := by
  unfold m_front_Drops
  rw [all_ok ha, obind_some, all_ok hb, obind_some]
  show m_front_Drops_l1 _ _ (1152921504606846971 + 1 + 1 + 1 + 1 + 1) 0 = _
  have e1 : IntKind.i64.wrap (0 + 1) = 1 := w64 (by omega) (by omega)
  have e2 : IntKind.i64.wrap (1 + 1) = 2 := w64 (by omega) (by omega)
  have e3 : IntKind.i64.wrap (2 + 1) = 3 := w64 (by omega) (by omega)
  have e4 : IntKind.i64.wrap (3 + 1) = 4 := w64 (by omega) (by omega)
  have step : ∀ (c : Bool) (x y : Option Bool) (d : Bool), x = some true → y = some d → cond c x y = some (c || d) := fun c x y d hx hy => by cases c <;> simp [hx, hy]
  unfold dropsB
  unfold m_front_Drops_l1
  rw [decide_eq_true (by omega), cond_true, show geti [(frnAll b).a0, (frnAll b).a1, (frnAll b).a2, (frnAll b).a3] 0 = some (frn b 0) from rfl, obind_some, show geti [(frnAll a).a0, (frnAll a).a1, (frnAll a).a2, (frnAll a).a3] 0 = some (frn a 0) from rfl, obind_some]
  refine step _ _ _ _ rfl ?_
  rw [e1]
  unfold m_front_Drops_l1
  rw [decide_eq_true (by omega), cond_true, show geti [(frnAll b).a0, (frnAll b).a1, (frnAll b).a2, (frnAll b).a3] 1 = some (frn b 1) from rfl, obind_some, show geti [(frnAll a).a0, (frnAll a).a1, (frnAll a).a2, (frnAll a).a3] 1 = some (frn a 1) from rfl, obind_some]
  refine step _ _ _ _ rfl ?_
  rw [e2]
  unfold m_front_Drops_l1
  rw [decide_eq_true (by omega), cond_true, show geti [(frnAll b).a0, (frnAll b).a1, (frnAll b).a2, (frnAll b).a3] 2 = some (frn b 2) from rfl, obind_some, show geti [(frnAll a).a0, (frnAll a).a1, (frnAll a).a2, (frnAll a).a3] 2 = some (frn a 2) from rfl, obind_some]
  refine step _ _ _ _ rfl ?_
  rw [e3]
  unfold m_front_Drops_l1
  rw [decide_eq_true (by omega), cond_true, show geti [(frnAll b).a0, (frnAll b).a1, (frnAll b).a2, (frnAll b).a3] 3 = some (frn b 3) from rfl, obind_some, show geti [(frnAll a).a0, (frnAll a).a1, (frnAll a).a2, (frnAll a).a3] 3 = some (frn a 3) from rfl, obind_some]
  have := step (decide (frn b 3 < frn a 3)) (some true) (m_front_Drops_l1 (frnAll b) (frnAll a) 1152921504606846972 (IntKind.i64.wrap (3 + 1))) false rfl (by
    rw [e4]
    show m_front_Drops_l1 _ _ (1152921504606846971 + 1) 4 = _
    unfold m_front_Drops_l1
    rw [decide_eq_false (by omega), cond_false])
  rw [Bool.or_false] at this
  exact this
end Go.Proofs.Ytkamekhkkkeedaa.K
