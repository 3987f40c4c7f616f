/- Heaps: the models' heaps are the plain ones. Printed by hm.py. -/
import Derived.Test.YtanahlngkociaaaPheap
import Derived.Test.YtanahlngkociaaaLM
namespace Go.Proofs.Ytanahlngkociaaa.K
open Go.RowKit Go.Lib
set_option linter.unusedVariables false
set_option linter.unusedSimpArgs false
theorem half1 {i : Nat} (h1 : 1 ≤ i) (h2 : i ≤ 1000000000) : IntKind.i64.wrap (Int.tdiv (IntKind.i64.wrap ((i : Int) - 1)) 2) = (((i - 1) / 2 : Nat) : Int) := by
  rw [w64 (n := (i : Int) - 1) (by omega) (by omega), show (i : Int) - 1 = ((i - 1 : Nat) : Int) by omega]
  have : Int.tdiv ((i - 1 : Nat) : Int) 2 = (((i - 1) / 2 : Nat) : Int) := rfl
  rw [this]
  exact w64 (by omega) (by omega)
def lti (a b : Int) : Bool := decide (a < b)
theorem ord_lti : Ord lti := ⟨fun a => by simp [lti], fun a b h => by simp [lti] at *; omega, fun a b c h1 h2 => by simp [lti] at *; omega⟩
def lte (a b : GEvent) : Bool := if a.Time ≠ b.Time then decide (a.Time < b.Time) else if a.Source ≠ b.Source then decide (a.Source < b.Source) else decide (a.Seq < b.Seq)
theorem lte_t {a b : GEvent} : lte a b = true ↔ a.Time < b.Time ∨ a.Time = b.Time ∧ (a.Source < b.Source ∨ a.Source = b.Source ∧ a.Seq < b.Seq) := by
  unfold lte
  by_cases h1 : a.Time = b.Time
  · rw [if_neg (by simp [h1])]
    by_cases h2 : a.Source = b.Source
    · rw [if_neg (by simp [h2])]; simp only [decide_eq_true_eq]; omega
    · rw [if_pos h2]; simp only [decide_eq_true_eq]; omega
  · rw [if_pos h1]; simp only [decide_eq_true_eq]; omega
theorem lte_f {a b : GEvent} : lte a b = false ↔ ¬ (a.Time < b.Time ∨ a.Time = b.Time ∧ (a.Source < b.Source ∨ a.Source = b.Source ∧ a.Seq < b.Seq)) := by
  rw [← lte_t, Bool.not_eq_true]
theorem ord_lte : Ord lte := ⟨fun a => by rw [lte_f]; omega, fun a b h => by rw [lte_t] at h; rw [lte_f]; omega, fun a b c h1 h2 => by rw [lte_f] at *; omega⟩
theorem clone_int {l : List Int} (hl : l.length ≤ 1000000000) : m_slices_Clone_int l = some l := by unfold m_slices_Clone_int; rw [app_ok (by simpa using hl)]; rfl
theorem clone_ev {l : List GEvent} (hl : l.length ≤ 1000000000) : m_slices_Clone_Event l = some l := by unfold m_slices_Clone_Event; rw [app_ok (by simpa using hl)]; rfl
theorem lt_int (a b : Int) : m_telltalelaw24_less a b = some (lti a b) := rfl
theorem idless (a b : GEvent) : m_event_ID_Less (GID.mk a.Time a.Source a.Seq) (GID.mk b.Time b.Source b.Seq) = some (lte a b) := by
  unfold m_event_ID_Less lte
  by_cases h1 : a.Time = b.Time
  · by_cases h2 : a.Source = b.Source <;> simp [h1, h2]
  · simp [h1]
theorem lt_ev (a b : GEvent) : m_sorter_ahead a b = some (lte a b) := by
  unfold m_sorter_ahead m_event_Event_ID
  rw [obind_some, obind_some, idless, obind_some]
section
/-! ### int -/
theorem lessint {l : List Int} {i j : Nat} (hi : i < l.length) (hj : j < l.length) : m_sorter_Heap_int_less__telltalelaw24_less l (i : Int) (j : Int) = some (la lti l i j) := by
  unfold m_sorter_Heap_int_less__telltalelaw24_less
  rw [geti_lt hi, obind_some, geti_lt hj, obind_some, lt_int, obind_some, la_eq hi hj]
theorem swapint {l : List Int} {i j : Nat} (hi : i < l.length) (hj : j < l.length) : m_sorter_Heap_int_swap__telltalelaw24_less l (i : Int) (j : Int) = some (sw l i j) := by
  unfold m_sorter_Heap_int_swap__telltalelaw24_less
  simp only [Int.toNat_natCast]
  rw [geti_lt hj, obind_some, geti_lt hi, obind_some, obind_some, geti_lt (by simpa using hj), obind_some, sw_eq hi hj]
theorem leastint_l {l : List Int} {i : Nat} (hi : i < l.length) (hl : l.length ≤ 1000000000) (fu : Nat) : m_sorter_Heap_int_least__telltalelaw24_less_l0 l (i : Int) (fu + 3) (i : Int) ((2 * i + 1 : Nat) : Int) = some ((ls lti l i : Nat) : Int) := by
  have w1 : IntKind.i64.wrap (2 * (i : Int)) = 2 * (i : Int) := w64 (by omega) (by omega)
  have w2 : IntKind.i64.wrap (2 * (i : Int) + 2) = ((2 * i + 2 : Nat) : Int) := by rw [w64 (by omega) (by omega)]; omega
  have key : ∀ a : Nat, a < l.length → m_sorter_Heap_int_least__telltalelaw24_less_l0 l (i : Int) (fu + 2) (a : Int) ((2 * i + 1 + 1 : Nat) : Int) = some (((if 2 * i + 2 < l.length ∧ la lti l (2 * i + 2) a = true then 2 * i + 2 else a : Nat)) : Int) := fun a ha => by
    unfold m_sorter_Heap_int_least__telltalelaw24_less_l0
    rw [w1, w2, decide_eq_true (by omega), cond_true]
    by_cases h : 2 * i + 2 < l.length
    · rw [d_lt (by omega), cond_true, lessint (show 2 * i + 1 + 1 < l.length from h) ha, obind_some, inc_ok (by omega)]
      unfold m_sorter_Heap_int_least__telltalelaw24_less_l0
      rw [w1, w2, decide_eq_false (by omega), cond_false, cond_false]
      cases q : la lti l (2 * i + 1 + 1) a with
      | true => rw [cond_true, if_pos ⟨h, rfl⟩]
      | false => rw [cond_false, if_neg (fun k => by cases k.2)]
    · rw [d_nlt (by omega), cond_false, if_neg (fun k => h k.1)]
  unfold m_sorter_Heap_int_least__telltalelaw24_less_l0 ls
  simp only
  rw [w1, w2, decide_eq_true (by omega), cond_true]
  by_cases h : 2 * i + 1 < l.length
  · rw [d_lt (by omega), cond_true, lessint h hi, obind_some, inc_ok (by omega), key _ h, key _ hi]
    cases q : la lti l (2 * i + 1) i with
    | true => rw [cond_true, if_pos (show 2 * i + 1 < l.length ∧ true = true from ⟨h, rfl⟩)]
    | false => rw [cond_false, if_neg (show ¬ (2 * i + 1 < l.length ∧ false = true) from fun k => by cases k.2)]
  · rw [d_nlt (by omega), cond_false, if_neg (show ¬ (2 * i + 1 < l.length ∧ la lti l (2 * i + 1) i = true) from fun k => h k.1), if_neg (show ¬ (2 * i + 2 < l.length ∧ la lti l (2 * i + 2) i = true) from fun k => by omega)]
theorem leastint {l : List Int} {i : Nat} (hi : i < l.length) (hl : l.length ≤ 1000000000) : m_sorter_Heap_int_least__telltalelaw24_less l (i : Int) = some ((ls lti l i : Nat) : Int) := by
  unfold m_sorter_Heap_int_least__telltalelaw24_less
  rw [w64 (n := 2 * (i : Int)) (by omega) (by omega), show IntKind.i64.wrap (2 * (i : Int) + 1) = ((2 * i + 1 : Nat) : Int) by rw [w64 (by omega) (by omega)]; omega]
  exact leastint_l hi hl 1152921504606846973
theorem upint : ∀ (f fu : Nat) (l : List Int) (i : Nat), i ≤ f → f < fu → i < l.length → l.length ≤ 1000000000 → m_sorter_Heap_int_Push__telltalelaw24_less_l3 fu l (i : Int) = some (up lti f l i)
  | f, 0, _, _, _, h, _, _ => by omega
  | 0, fu + 1, l, i, h1, h2, h3, h4 => by
    obtain rfl : i = 0 := by omega
    unfold m_sorter_Heap_int_Push__telltalelaw24_less_l3 up
    rw [d_nlt (by omega), cond_false]
  | f + 1, fu + 1, l, i, h1, h2, h3, h4 => by
    unfold m_sorter_Heap_int_Push__telltalelaw24_less_l3 up
    by_cases h0 : i = 0
    · subst h0; rw [d_nlt (by omega), cond_false, if_pos rfl]
    · have hp : (i - 1) / 2 < l.length := by omega
      rw [d_lt (by omega), cond_true, if_neg h0, half1 (by omega) (by omega), lessint h3 hp, obind_some, swapint h3 hp, obind_some, upint f fu _ _ (by omega) (by omega) (by rw [sw_len]; exact hp) (by rw [sw_len]; exact h4)]
      cases la lti l i ((i - 1) / 2) <;> rfl
theorem pushint {l : List Int} {x : Int} (hl : l.length < 1000000000) : m_sorter_Heap_int_Push__telltalelaw24_less l x = some (push lti l x) := by
  unfold m_sorter_Heap_int_Push__telltalelaw24_less m_sorter_Heap_int_clone__telltalelaw24_less push
  rw [clone_int (by omega), obind_some, obind_some, app_ok (by simp; omega), obind_some]
  rw [show IntKind.i64.wrap ((((l ++ [x]).length : Nat) : Int) - 1) = ((l.length : Nat) : Int) by rw [List.length_append, List.length_singleton, w64 (by omega) (by omega)]; omega]
  exact upint _ _ _ _ (Nat.le_refl _) (by omega) (by simp) (by simp; omega)
theorem downint {x : Int} : ∀ (f fu : Nat) (l : List Int) (i : Nat), l.length - i ≤ f → f < fu → i < l.length → l.length ≤ 1000000000 → m_sorter_Heap_int_Pop__telltalelaw24_less_l5 x fu l (i : Int) = some (x, down lti f l i, true)
  | f, 0, _, _, _, h, _, _ => by omega
  | 0, fu + 1, l, i, h1, h2, h3, h4 => by omega
  | f + 1, fu + 1, l, i, h1, h2, h3, h4 => by
    unfold m_sorter_Heap_int_Pop__telltalelaw24_less_l5 down
    rw [leastint h3 h4, obind_some]
    obtain ⟨k1, k2, _⟩ := ls_spec ord_lti h3
    by_cases e : ls lti l i = i
    · rw [decide_eq_true (by omega), cond_true, if_pos e]
    · rw [decide_eq_false (by omega), cond_false, if_neg e, swapint h3 k1, obind_some, downint f fu _ _ (by rw [sw_len]; rcases k2 with k2 | k2 <;> omega) (by omega) (by rw [sw_len]; exact k1) (by rw [sw_len]; exact h4)]
theorem popint_nil : m_sorter_Heap_int_Pop__telltalelaw24_less [] = some (0, [], false) := rfl
theorem leastint_nil : m_sorter_Heap_int_least__telltalelaw24_less [] 0 = some 0 := by decide +kernel
theorem popint {a : Int} {r : List Int} (hl : (a :: r).length ≤ 1000000000) : m_sorter_Heap_int_Pop__telltalelaw24_less (a :: r) = some (a, rest lti (a :: r), true) := by
  unfold m_sorter_Heap_int_Pop__telltalelaw24_less m_sorter_Heap_int_clone__telltalelaw24_less rest
  rw [clone_int hl, obind_some, obind_some, decide_eq_false (by simp only [List.length_cons]; omega), cond_false, geti_0, obind_some]
  rw [show IntKind.i64.wrap ((((a :: r).length : Nat) : Int) - 1) = ((r.length : Nat) : Int) by
    simp only [List.length_cons] at *
    rw [w64 (by omega) (by omega)]; omega]
  have h0 : 0 < (a :: r).length := by simp
  have hn : r.length < (a :: r).length := by simp
  have es := swapint h0 hn
  rw [Int.natCast_zero] at es
  rw [es, obind_some]
  have ec := cut_ok (l := sw (a :: r) 0 r.length) (a := 0) (b := r.length) (by omega) (by rw [sw_len]; simp)
  rw [Int.natCast_zero] at ec
  rw [ec, obind_some, List.drop_zero, Nat.sub_zero]
  simp only
  have hlen : ((sw (a :: r) 0 r.length).take r.length).length = r.length := by rw [List.length_take, sw_len]; simp
  split
  · rename_i h
    subst h
    unfold m_sorter_Heap_int_Pop__telltalelaw24_less_l5
    rw [List.length_nil, List.take_zero, leastint_nil, obind_some, decide_eq_true rfl, cond_true]
  · rename_i h
    have hr : 0 < r.length := List.length_pos_iff.2 h
    simp only [List.length_cons] at hl
    have := downint (x := a) r.length 1152921504606846976 ((sw (a :: r) 0 r.length).take r.length) 0 (by omega) (by omega) (by omega) (by omega)
    rw [Int.natCast_zero] at this
    exact this
end
section
/-! ### event_Event -/
theorem lessev {l : List GEvent} {i j : Nat} (hi : i < l.length) (hj : j < l.length) : m_sorter_Heap_event_Event_less__sorter_ahead l (i : Int) (j : Int) = some (la lte l i j) := by
  unfold m_sorter_Heap_event_Event_less__sorter_ahead
  rw [geti_lt hi, obind_some, geti_lt hj, obind_some, lt_ev, obind_some, la_eq hi hj]
theorem swapev {l : List GEvent} {i j : Nat} (hi : i < l.length) (hj : j < l.length) : m_sorter_Heap_event_Event_swap__sorter_ahead l (i : Int) (j : Int) = some (sw l i j) := by
  unfold m_sorter_Heap_event_Event_swap__sorter_ahead
  simp only [Int.toNat_natCast]
  rw [geti_lt hj, obind_some, geti_lt hi, obind_some, obind_some, geti_lt (by simpa using hj), obind_some, sw_eq hi hj]
theorem leastev_l {l : List GEvent} {i : Nat} (hi : i < l.length) (hl : l.length ≤ 1000000000) (fu : Nat) : m_sorter_Heap_event_Event_least__sorter_ahead_l0 l (i : Int) (fu + 3) (i : Int) ((2 * i + 1 : Nat) : Int) = some ((ls lte l i : Nat) : Int) := by
  have w1 : IntKind.i64.wrap (2 * (i : Int)) = 2 * (i : Int) := w64 (by omega) (by omega)
  have w2 : IntKind.i64.wrap (2 * (i : Int) + 2) = ((2 * i + 2 : Nat) : Int) := by rw [w64 (by omega) (by omega)]; omega
  have key : ∀ a : Nat, a < l.length → m_sorter_Heap_event_Event_least__sorter_ahead_l0 l (i : Int) (fu + 2) (a : Int) ((2 * i + 1 + 1 : Nat) : Int) = some (((if 2 * i + 2 < l.length ∧ la lte l (2 * i + 2) a = true then 2 * i + 2 else a : Nat)) : Int) := fun a ha => by
    unfold m_sorter_Heap_event_Event_least__sorter_ahead_l0
    rw [w1, w2, decide_eq_true (by omega), cond_true]
    by_cases h : 2 * i + 2 < l.length
    · rw [d_lt (by omega), cond_true, lessev (show 2 * i + 1 + 1 < l.length from h) ha, obind_some, inc_ok (by omega)]
      unfold m_sorter_Heap_event_Event_least__sorter_ahead_l0
      rw [w1, w2, decide_eq_false (by omega), cond_false, cond_false]
      cases q : la lte l (2 * i + 1 + 1) a with
      | true => rw [cond_true, if_pos ⟨h, rfl⟩]
      | false => rw [cond_false, if_neg (fun k => by cases k.2)]
    · rw [d_nlt (by omega), cond_false, if_neg (fun k => h k.1)]
  unfold m_sorter_Heap_event_Event_least__sorter_ahead_l0 ls
  simp only
  rw [w1, w2, decide_eq_true (by omega), cond_true]
  by_cases h : 2 * i + 1 < l.length
  · rw [d_lt (by omega), cond_true, lessev h hi, obind_some, inc_ok (by omega), key _ h, key _ hi]
    cases q : la lte l (2 * i + 1) i with
    | true => rw [cond_true, if_pos (show 2 * i + 1 < l.length ∧ true = true from ⟨h, rfl⟩)]
    | false => rw [cond_false, if_neg (show ¬ (2 * i + 1 < l.length ∧ false = true) from fun k => by cases k.2)]
  · rw [d_nlt (by omega), cond_false, if_neg (show ¬ (2 * i + 1 < l.length ∧ la lte l (2 * i + 1) i = true) from fun k => h k.1), if_neg (show ¬ (2 * i + 2 < l.length ∧ la lte l (2 * i + 2) i = true) from fun k => by omega)]
theorem leastev {l : List GEvent} {i : Nat} (hi : i < l.length) (hl : l.length ≤ 1000000000) : m_sorter_Heap_event_Event_least__sorter_ahead l (i : Int) = some ((ls lte l i : Nat) : Int) := by
  unfold m_sorter_Heap_event_Event_least__sorter_ahead
  rw [w64 (n := 2 * (i : Int)) (by omega) (by omega), show IntKind.i64.wrap (2 * (i : Int) + 1) = ((2 * i + 1 : Nat) : Int) by rw [w64 (by omega) (by omega)]; omega]
  exact leastev_l hi hl 1152921504606846973
theorem upev : ∀ (f fu : Nat) (l : List GEvent) (i : Nat), i ≤ f → f < fu → i < l.length → l.length ≤ 1000000000 → m_sorter_Heap_event_Event_Push__sorter_ahead_l3 fu l (i : Int) = some (up lte f l i)
  | f, 0, _, _, _, h, _, _ => by omega
  | 0, fu + 1, l, i, h1, h2, h3, h4 => by
    obtain rfl : i = 0 := by omega
    unfold m_sorter_Heap_event_Event_Push__sorter_ahead_l3 up
    rw [d_nlt (by omega), cond_false]
  | f + 1, fu + 1, l, i, h1, h2, h3, h4 => by
    unfold m_sorter_Heap_event_Event_Push__sorter_ahead_l3 up
    by_cases h0 : i = 0
    · subst h0; rw [d_nlt (by omega), cond_false, if_pos rfl]
    · have hp : (i - 1) / 2 < l.length := by omega
      rw [d_lt (by omega), cond_true, if_neg h0, half1 (by omega) (by omega), lessev h3 hp, obind_some, swapev h3 hp, obind_some, upev f fu _ _ (by omega) (by omega) (by rw [sw_len]; exact hp) (by rw [sw_len]; exact h4)]
      cases la lte l i ((i - 1) / 2) <;> rfl
theorem pushev {l : List GEvent} {x : GEvent} (hl : l.length < 1000000000) : m_sorter_Heap_event_Event_Push__sorter_ahead l x = some (push lte l x) := by
  unfold m_sorter_Heap_event_Event_Push__sorter_ahead m_sorter_Heap_event_Event_clone__sorter_ahead push
  rw [clone_ev (by omega), obind_some, obind_some, app_ok (by simp; omega), obind_some]
  rw [show IntKind.i64.wrap ((((l ++ [x]).length : Nat) : Int) - 1) = ((l.length : Nat) : Int) by rw [List.length_append, List.length_singleton, w64 (by omega) (by omega)]; omega]
  exact upev _ _ _ _ (Nat.le_refl _) (by omega) (by simp) (by simp; omega)
theorem downev {x : GEvent} : ∀ (f fu : Nat) (l : List GEvent) (i : Nat), l.length - i ≤ f → f < fu → i < l.length → l.length ≤ 1000000000 → m_sorter_Heap_event_Event_Pop__sorter_ahead_l5 x fu l (i : Int) = some (x, down lte f l i, true)
  | f, 0, _, _, _, h, _, _ => by omega
  | 0, fu + 1, l, i, h1, h2, h3, h4 => by omega
  | f + 1, fu + 1, l, i, h1, h2, h3, h4 => by
    unfold m_sorter_Heap_event_Event_Pop__sorter_ahead_l5 down
    rw [leastev h3 h4, obind_some]
    obtain ⟨k1, k2, _⟩ := ls_spec ord_lte h3
    by_cases e : ls lte l i = i
    · rw [decide_eq_true (by omega), cond_true, if_pos e]
    · rw [decide_eq_false (by omega), cond_false, if_neg e, swapev h3 k1, obind_some, downev f fu _ _ (by rw [sw_len]; rcases k2 with k2 | k2 <;> omega) (by omega) (by rw [sw_len]; exact k1) (by rw [sw_len]; exact h4)]
theorem popev_nil : m_sorter_Heap_event_Event_Pop__sorter_ahead [] = some (GEvent.mk 0 0 0 [] [], [], false) := rfl
theorem leastev_nil : m_sorter_Heap_event_Event_least__sorter_ahead [] 0 = some 0 := by decide +kernel
theorem popev {a : GEvent} {r : List GEvent} (hl : (a :: r).length ≤ 1000000000) : m_sorter_Heap_event_Event_Pop__sorter_ahead (a :: r) = some (a, rest lte (a :: r), true) := by
  unfold m_sorter_Heap_event_Event_Pop__sorter_ahead m_sorter_Heap_event_Event_clone__sorter_ahead rest
  rw [clone_ev hl, obind_some, obind_some, decide_eq_false (by simp only [List.length_cons]; omega), cond_false, geti_0, obind_some]
  rw [show IntKind.i64.wrap ((((a :: r).length : Nat) : Int) - 1) = ((r.length : Nat) : Int) by
    simp only [List.length_cons] at *
    rw [w64 (by omega) (by omega)]; omega]
  have h0 : 0 < (a :: r).length := by simp
  have hn : r.length < (a :: r).length := by simp
  have es := swapev h0 hn
  rw [Int.natCast_zero] at es
  rw [es, obind_some]
  have ec := cut_ok (l := sw (a :: r) 0 r.length) (a := 0) (b := r.length) (by omega) (by rw [sw_len]; simp)
  rw [Int.natCast_zero] at ec
  rw [ec, obind_some, List.drop_zero, Nat.sub_zero]
  simp only
  have hlen : ((sw (a :: r) 0 r.length).take r.length).length = r.length := by rw [List.length_take, sw_len]; simp
  split
  · rename_i h
    subst h
    unfold m_sorter_Heap_event_Event_Pop__sorter_ahead_l5
    rw [List.length_nil, List.take_zero, leastev_nil, obind_some, decide_eq_true rfl, cond_true]
  · rename_i h
    have hr : 0 < r.length := List.length_pos_iff.2 h
    simp only [List.length_cons] at hl
    have := downev (x := a) r.length 1152921504606846976 ((sw (a :: r) 0 r.length).take r.length) 0 (by omega) (by omega) (by omega) (by omega)
    rw [Int.natCast_zero] at this
    exact this
end
end Go.Proofs.Ytanahlngkociaaa.K
