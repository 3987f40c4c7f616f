/- Runs: the program's ways and the document's, plain. -/
import Derived.Test.YtlbajkdbbffefaaPrank
import Derived.Test.YtlbajkdbbffefaaLO
namespace Go.Proofs.Ytlbajkdbbffefaa.K
open Go.RowKit Go.Lib
set_option linter.unusedVariables false
set_option linter.unusedSimpArgs false
theorem awake_ok : m_telltalelaw21_awake = some true := by decide +kernel
def prB (p : GPair) : Prop := p.Var.length ≤ 40 ∧ evB p.E
def bdB (l : List GPair) : Prop := l.length ≤ 20 ∧ ∀ p ∈ l, prB p
theorem wf_evM {e : GEvent} (h : wf_GEvent e) : evM e := ⟨h.Type_, h.Vals.1, fun v hv => (h.Vals.2 v hv).Text⟩
theorem long_ok {l : List GPair} (hw : ∀ p ∈ l, wf_GPair p) : ∃ r, m_telltalelaw19_Long l = some r ∧ (r = 1 ∨ r = 0 ∧ bdB l) := by
  unfold m_telltalelaw19_Long
  by_cases h : 20 < l.length
  · rw [d_lt (by omega)]; exact ⟨1, rfl, .inl rfl⟩
  · rw [d_nlt (by omega), cond_false]
    have := loop1_0 (L := fun fu i => m_telltalelaw19_Long_l1 l fu i) (n := l.length) (P := fun i o => ∃ r, o = some r ∧ (r = 1 ∨ r = 0 ∧ ∀ p ∈ l.drop i, prB p)) (by omega)
      (fun fu => by unfold m_telltalelaw19_Long_l1; rw [d_nlt (by omega)]; exact ⟨0, rfl, .inr ⟨rfl, by simp⟩⟩)
      (fun fu i hi ih => by
        unfold m_telltalelaw19_Long_l1
        have hwi := hw l[i] (List.getElem_mem hi)
        have hv := maxLen_le hwi.Var
        rw [d_lt (by omega), cond_true, geti_lt hi, obind_some]
        by_cases ht : 40 < l[i].Var.length
        · rw [d_lt (by omega)]; exact ⟨1, rfl, .inl rfl⟩
        · rw [d_nlt (by omega), cond_false, obind_some]
          obtain ⟨q, e, hq⟩ := over_ok (l := [l[i].E]) (k := 1) (by decide) (by simpa using wf_evM hwi.E)
          rw [e, obind_some]
          rcases hq with rfl | ⟨rfl, _, hq⟩
          · exact ⟨1, rfl, .inl rfl⟩
          · rw [d_nlt (by decide), cond_false, inc_ok (by omega)]
            obtain ⟨r, e, k⟩ := ih
            refine ⟨r, e, k.imp id fun ⟨k1, k2⟩ => ⟨k1, ?_⟩⟩
            rw [drop_cons hi]
            intro p hp
            rcases List.mem_cons.1 hp with rfl | hp
            · exact ⟨by omega, hq _ (by simp)⟩
            · exact k2 p hp)
    obtain ⟨r, e, q⟩ := this
    exact ⟨r, e, q.imp id fun ⟨q1, q2⟩ => ⟨q1, by omega, by simpa using q2⟩⟩
def rsB (l : List GRun) : Prop := l.length ≤ 12 ∧ ∀ x ∈ l, bdB x.Bound
theorem over21_ok {r : GRuns} (hw : ∀ x ∈ r.L, wf_GRun x) : ∃ n, m_telltalelaw21_Over r = some n ∧ (n = 1 ∨ n = 0 ∧ rsB r.L) := by
  unfold m_telltalelaw21_Over
  by_cases h : 12 < r.L.length
  · rw [d_lt (by omega)]; exact ⟨1, rfl, .inl rfl⟩
  · rw [d_nlt (by omega), cond_false]
    have := loop1_0 (L := fun fu i => m_telltalelaw21_Over_l1 r fu i) (n := r.L.length) (P := fun i o => ∃ n, o = some n ∧ (n = 1 ∨ n = 0 ∧ ∀ x ∈ r.L.drop i, bdB x.Bound)) (by omega)
      (fun fu => by unfold m_telltalelaw21_Over_l1; rw [d_nlt (by omega)]; exact ⟨0, rfl, .inr ⟨rfl, by simp⟩⟩)
      (fun fu i hi ih => by
        unfold m_telltalelaw21_Over_l1
        have hwi := hw r.L[i] (List.getElem_mem hi)
        obtain ⟨q, e, hq⟩ := long_ok (l := r.L[i].Bound) hwi.Bound.2
        rw [d_lt (by omega), cond_true, geti_lt hi, obind_some, e, obind_some]
        rcases hq with rfl | ⟨rfl, hq⟩
        · exact ⟨1, rfl, .inl rfl⟩
        · rw [d_nlt (by decide), cond_false, inc_ok (by omega)]
          obtain ⟨n, e, k⟩ := ih
          refine ⟨n, e, k.imp id fun ⟨k1, k2⟩ => ⟨k1, ?_⟩⟩
          rw [drop_cons hi]
          intro p hp
          rcases List.mem_cons.1 hp with rfl | hp
          · exact hq
          · exact k2 p hp)
    obtain ⟨n, e, q⟩ := this
    exact ⟨n, e, q.imp id fun ⟨q1, q2⟩ => ⟨q1, by omega, by simpa using q2⟩⟩
/-! ### copies -/
theorem pairs_ok {l : List GPair} (hb : bdB l) : m_telltalelaw19_Pairs l = some l := by
  have := map_loop (L := fun fu s i => m_telltalelaw19_Pairs_l0 l fu s i) (l := l) (f := id) (e := id) (by have := hb.1; omega) (fun fu s => by unfold m_telltalelaw19_Pairs_l0; rw [d_nlt (by omega)]; rfl)
    (fun fu s i h hs => by
      have hi := (hb.2 _ (List.getElem_mem h)).2.2.1
      conv => lhs; unfold m_telltalelaw19_Pairs_l0
      rw [d_lt (by omega), cond_true, geti_lt h, obind_some, obind_some, own_ok (by omega), obind_some, app_ok (by simp; omega), obind_some, inc_ok (by have := hb.1; omega)]; rfl)
  rw [List.map_id] at this; exact this
theorem bpairs_ok {l : List GPair} (hb : bdB l) : m_telltalelaw19_BackPairs l = some l := by
  have := map_loop (L := fun fu s i => m_telltalelaw19_BackPairs_l0 l fu s i) (l := l) (f := id) (e := id) (by have := hb.1; omega) (fun fu s => by unfold m_telltalelaw19_BackPairs_l0; rw [d_nlt (by omega)]; rfl)
    (fun fu s i h hs => by
      have hi := (hb.2 _ (List.getElem_mem h)).2.2.1
      conv => lhs; unfold m_telltalelaw19_BackPairs_l0
      rw [d_lt (by omega), cond_true, geti_lt h, obind_some, obind_some, back_ok (by omega), obind_some, app_ok (by simp; omega), obind_some, inc_ok (by have := hb.1; omega)]; rfl)
  rw [List.map_id] at this; exact this
theorem own21_ok {x : GRun} (hb : bdB x.Bound) : m_telltalelaw21_Own x = some x := by unfold m_telltalelaw21_Own; rw [pairs_ok hb]; rfl
/-- Few runs, each short. -/
def rqB (l : List GRun) : Prop := l.length ≤ 100 ∧ ∀ x ∈ l, bdB x.Bound
theorem rsB.q {l : List GRun} (h : rsB l) : rqB l := ⟨by have := h.1; omega, h.2⟩
theorem all_ok {r : GRuns} (hb : rqB r.L) : m_telltalelaw21_All r = some r := by
  have := map_loop (L := fun fu s i => m_telltalelaw21_All_l0 r fu s i) (l := r.L) (f := id) (e := fun s => GRuns.mk r.Cap s) (by have := hb.1; omega) (fun fu s => by unfold m_telltalelaw21_All_l0; rw [d_nlt (by omega)]; rfl)
    (fun fu s i h hs => by
      have hi := hb.2 _ (List.getElem_mem h)
      conv => lhs; unfold m_telltalelaw21_All_l0
      rw [d_lt (by omega), cond_true, geti_lt h, obind_some, own21_ok hi, obind_some, app_ok (by simp; omega), obind_some, inc_ok (by have := hb.1; omega)]; rfl)
  rw [List.map_id] at this; exact this
theorem back21_ok {r : GRuns} (hb : rqB r.L) : m_telltalelaw21_Back r = some r := by
  have := map_loop (L := fun fu s i => m_telltalelaw21_Back_l0 r fu s i) (l := r.L) (f := id) (e := fun s => GRuns.mk r.Cap s) (by have := hb.1; omega) (fun fu s => by unfold m_telltalelaw21_Back_l0; rw [d_nlt (by omega)]; rfl)
    (fun fu s i h hs => by
      have hi := hb.2 _ (List.getElem_mem h)
      conv => lhs; unfold m_telltalelaw21_Back_l0
      rw [d_lt (by omega), cond_true, geti_lt h, obind_some, bpairs_ok hi, obind_some, app_ok (by simp; omega), obind_some, inc_ok (by have := hb.1; omega)]; rfl)
  rw [List.map_id] at this; exact this
theorem clone_ok {x : GRun} (hb : bdB x.Bound) : m_runs_clone x = some x := by
  unfold m_runs_clone m_slices_Clone_Pair
  rw [app_ok (by have := hb.1; simp; omega)]; rfl
/-! ### the same -/
def sameR (x y : GRun) : Bool := decide (x.Place = y.Place) && decide (x.Broken = y.Broken) && decide (rk x.Bound y.Bound = 0)
def sameL : List GRun → List GRun → Bool
  | [], [] => true
  | x :: l, y :: r => sameR x y && sameL l r
  | _, _ => false
theorem sameR_self (x : GRun) : sameR x x = true := by simp [sameR, rk_self]
theorem sameL_self : ∀ l : List GRun, sameL l l = true
  | [] => rfl
  | x :: l => by rw [sameL, sameR_self, sameL_self l]; rfl
def sameG (a b : GRuns) : Bool := decide (a.Cap = b.Cap) && sameL a.L b.L
theorem sameG_self (a : GRuns) : sameG a a = true := by simp [sameG, sameL_self]
theorem sameL_len : ∀ {l r : List GRun}, sameL l r = true → l.length = r.length
  | [], [], _ => rfl
  | x :: l, y :: r, h => by
    simp only [sameL, Bool.and_eq_true] at h
    simp [sameL_len h.2]
  | [], _ :: _, h => by simp [sameL] at h
  | _ :: _, [], h => by simp [sameL] at h
theorem rsame_ok {a b : GRuns} (ha : rqB a.L) (hb : rqB b.L) : m_telltaleref21_Same a b = some (sameG a b) := by
  unfold m_telltaleref21_Same sameG
  have hla := ha.1
  have hlb := hb.1
  by_cases h1 : a.Cap = b.Cap
  · by_cases h2 : a.L.length = b.L.length
    · rw [decide_eq_false (by simp [h1]), cond_false, decide_eq_false (by simp [h2]), cond_false, decide_eq_true h1, Bool.true_and]
      have := loop1_0 (L := fun fu i => m_telltaleref21_Same_l1 a b fu i) (n := a.L.length) (P := fun i o => o = some (sameL (a.L.drop i) (b.L.drop i))) (by omega)
        (fun fu => by
          unfold m_telltaleref21_Same_l1
          rw [d_nlt (by omega), cond_false, List.drop_of_length_le (Nat.le_refl _), List.drop_of_length_le (by omega)]; rfl)
        (fun fu i hi ih => by
          have hj : i < b.L.length := by omega
          have h3 := (ha.2 _ (List.getElem_mem hi)).1
          have h4 := (hb.2 _ (List.getElem_mem hj)).1
          unfold m_telltaleref21_Same_l1 m_telltaleref21_Same_j5
          rw [d_lt (by omega), cond_true, geti_lt hi, obind_some, geti_lt hj, obind_some, rrank_ok _ _ (by omega) (by omega), obind_some, inc_ok (by omega), ih, drop_cons hi, drop_cons hj, sameL, sameR]
          by_cases q1 : a.L[i].Place = b.L[i].Place <;> by_cases q2 : a.L[i].Broken = b.L[i].Broken <;> by_cases q3 : rk a.L[i].Bound b.L[i].Bound = 0 <;> simp [q1, q2, q3])
      simpa using this
    · rw [decide_eq_false (by simp [h1]), cond_false, decide_eq_true (by simp; omega), cond_true]
      cases hs : sameL a.L b.L with
      | true => exact absurd (sameL_len hs) h2
      | false => simp
  · rw [decide_eq_true (by simp [h1]), cond_true]; simp [h1]
theorem twin_ok {x y : GRun} (hb : bdB x.Bound) : m_runs_Run_twin x y = some (decide (x.Place = y.Place) && decide (rk x.Bound y.Bound = 0)) := by
  unfold m_runs_Run_twin
  rw [rank_ok _ _ (by have := hb.1; omega), obind_some]
  by_cases h : x.Place = y.Place <;> simp [h]
theorem same_ok {a b : GRuns} (ha : rqB a.L) (hb : rqB b.L) : m_runs_Same a b = some (sameG a b) := by
  unfold m_runs_Same sameG
  have hla := ha.1
  have hlb := hb.1
  by_cases h1 : a.Cap = b.Cap
  · rw [decide_eq_true h1, cond_true, Bool.true_and]
    unfold m_slices_EqualFunc_Runruns_Run_runs_Run_runs_Run__runs_Same_1
    by_cases h2 : a.L.length = b.L.length
    · rw [decide_eq_false (by simp [h2]), cond_false]
      have := loop1_0 (L := fun fu i => m_slices_EqualFunc_Runruns_Run_runs_Run_runs_Run__runs_Same_1_l2 a.L b.L fu i) (n := a.L.length) (P := fun i o => o = some (sameL (a.L.drop i) (b.L.drop i))) (by omega)
        (fun fu => by
          unfold m_slices_EqualFunc_Runruns_Run_runs_Run_runs_Run__runs_Same_1_l2
          rw [d_nlt (by omega), cond_false, List.drop_of_length_le (Nat.le_refl _), List.drop_of_length_le (by omega)]; rfl)
        (fun fu i hi ih => by
          have hj : i < b.L.length := by omega
          unfold m_slices_EqualFunc_Runruns_Run_runs_Run_runs_Run__runs_Same_1_l2 m_runs_Same_1
          rw [d_lt (by omega), cond_true, geti_lt hi, obind_some, geti_lt hj, obind_some, twin_ok (ha.2 _ (List.getElem_mem hi)), obind_some, inc_ok (by omega), ih, drop_cons hi, drop_cons hj, sameL, sameR]
          by_cases q1 : a.L[i].Place = b.L[i].Place <;> by_cases q2 : a.L[i].Broken = b.L[i].Broken <;> by_cases q3 : rk a.L[i].Bound b.L[i].Bound = 0 <;> simp [q1, q2, q3])
      have e : m_slices_EqualFunc_Runruns_Run_runs_Run_runs_Run__runs_Same_1_l2 a.L b.L 1152921504606846976 0 = some (sameL a.L b.L) := by simpa using this
      rw [e]; rfl
    · rw [decide_eq_true (by simp; omega), cond_true]
      cases hs : sameL a.L b.L with
      | true => exact absurd (sameL_len hs) h2
      | false => rfl
  · rw [decide_eq_false h1, cond_false]; simp [h1]
/-! ### pruned -/
def heldI (n : Int) : Int := max 0 (min n 1099511627776)
def stays (t w : Int) (x : GRun) : Bool := match x.Bound with
  | [] => true
  | p :: _ => decide (heldI t - heldI p.E.Time ≤ heldI w)
theorem held_r (n : Int) : 0 ≤ heldI n ∧ heldI n ≤ 1099511627776 := by unfold heldI; omega
theorem span_ok {l : List GPair} (hl : l.length ≤ 400000000) : ∃ a b, m_bind_Span l = some (a, b, !l.isEmpty) ∧ ∀ p r, l = p :: r → a = p.E.Time ∧ b = ((p :: r).getLast (by simp)).E.Time := by
  unfold m_bind_Span
  cases l with
  | nil => exact ⟨0, 0, rfl, fun p r h => by cases h⟩
  | cons p r =>
    rw [decide_eq_false (by simp; omega), cond_false, geti_0, obind_some, w64 (by omega) (by omega)]
    have e : geti (p :: r) (((p :: r).length : Int) - 1) = some ((p :: r).getLast (by simp)) := by
      refine geti_of (k := r.length) (by simp) ?_
      rw [List.getLast_eq_getElem]; simp
    rw [e]
    exact ⟨_, _, rfl, fun q s h => by cases h; exact ⟨rfl, rfl⟩⟩
theorem prune1_ok {r : GRuns} {i : Nat} {t w : Int} (hb : rqB r.L) (hi : i < r.L.length) : m_runs_Runs_Prune_1 (i : Int) r t w = some (stays t w r.L[i]) := by
  unfold m_runs_Runs_Prune_1 m_runs_held stays
  have hbi := (hb.2 _ (List.getElem_mem hi)).1
  rw [geti_lt hi, obind_some]
  obtain ⟨a, b, e, k⟩ := span_ok (l := r.L[i].Bound) (by omega)
  rw [e, obind_some]
  cases hx : r.L[i].Bound with
  | nil => rfl
  | cons p q =>
    have h1 := held_r t
    have h2 := held_r p.E.Time
    have hk := (k p q hx).1
    subst hk
    show some (decide (IntKind.i64.wrap (heldI t - heldI p.E.Time) ≤ heldI w)) = _
    rw [w64 (by omega) (by omega)]
theorem rqB_filter {l : List GRun} (hb : rqB l) (p : GRun → Bool) : rqB (l.filter p) := ⟨Nat.le_trans (List.length_filter_le _ _) hb.1, fun x hx => hb.2 x (List.mem_filter.1 hx).1⟩
theorem prune_ok {r : GRuns} {t w : Int} (hb : rqB r.L) : m_runs_Runs_Prune r t w = some ⟨r.Cap, r.L.filter (stays t w)⟩ := by
  unfold m_runs_Runs_Prune m_runs_Runs_filter__runs_Runs_Prune_1
  have hl := hb.1
  have := loopG_0 (L := fun fu s i => m_runs_Runs_filter__runs_Runs_Prune_1_l1 r r t w fu s i) (n := r.L.length) (P := fun i s o => s.length ≤ i → o = some (GRuns.mk r.Cap (s ++ (r.L.drop i).filter (stays t w)))) (by omega)
    (fun fu s hs => by unfold m_runs_Runs_filter__runs_Runs_Prune_1_l1; rw [d_nlt (by omega)]; simp)
    (fun fu s i hi ih hs => by
      unfold m_runs_Runs_filter__runs_Runs_Prune_1_l1
      rw [d_lt (by omega), cond_true, geti_lt hi, obind_some, prune1_ok hb hi, obind_some, clone_ok (hb.2 _ (List.getElem_mem hi)), obind_some, app_ok (by simp; omega), obind_some, inc_ok (by omega), drop_cons hi, List.filter_cons]
      cases hq : stays t w r.L[i]
      · rw [cond_false, ih s (by omega)]; simp
      · rw [cond_true, ih _ (by simp; omega)]; simp) [] (Nat.le_refl _)
  have e : m_runs_Runs_filter__runs_Runs_Prune_1_l1 r r t w 1152921504606846976 [] 0 = some ⟨r.Cap, r.L.filter (stays t w)⟩ := by simpa using this
  rw [e]; rfl
theorem early_ok {l : List GPair} {t w : Int} : m_telltaleref21_Early l t w = some (match l with | [] => false | p :: _ => decide (heldI w < heldI t - heldI p.E.Time)) := by
  unfold m_telltaleref21_Early m_telltaleref21_Held
  have hm : ∀ n : Int, max 0 (min 1099511627776 n) = heldI n := fun n => by unfold heldI; omega
  cases l with
  | nil => rfl
  | cons p q =>
    have h1 := held_r t
    have h2 := held_r p.E.Time
    rw [d_lt (by rw [List.length_cons]; omega), cond_true, obind_some, geti_0, obind_some, obind_some, obind_some, hm, hm, hm, w64 (by omega) (by omega)]
theorem rprune_ok {r : GRuns} {t w : Int} (hb : rqB r.L) : m_telltaleref21_Prune r t w = some ⟨r.Cap, r.L.filter (stays t w)⟩ := by
  unfold m_telltaleref21_Prune
  have hl := hb.1
  have := loopG_0 (L := fun fu s i => m_telltaleref21_Prune_l0 r t w fu s i) (n := r.L.length) (P := fun i s o => s.length ≤ i → o = some (GRuns.mk r.Cap (s ++ (r.L.drop i).filter (stays t w)))) (by omega)
    (fun fu s hs => by unfold m_telltaleref21_Prune_l0; rw [d_nlt (by omega)]; simp)
    (fun fu s i hi ih hs => by
      unfold m_telltaleref21_Prune_l0
      rw [d_lt (by omega), cond_true, geti_lt hi, obind_some, early_ok, obind_some, obind_some, app_ok (by simp; omega), obind_some, inc_ok (by omega), drop_cons hi, List.filter_cons]
      have hst : stays t w r.L[i] = !(match r.L[i].Bound with | [] => false | p :: _ => decide (heldI w < heldI t - heldI p.E.Time)) := by
        unfold stays
        cases r.L[i].Bound with
        | nil => rfl
        | cons p q =>
          simp only
          by_cases h : heldI w < heldI t - heldI p.E.Time
          · rw [decide_eq_true h, decide_eq_false (by omega)]; rfl
          · rw [decide_eq_false h, decide_eq_true (by omega)]; rfl
      rw [← hst]
      cases hq : stays t w r.L[i]
      · rw [cond_false, ih s (by omega)]; simp
      · rw [cond_true, ih _ (by simp; omega)]; simp) [] (Nat.le_refl _)
  simpa using this
/-! ### added -/
theorem filter_all_ok {r : GRuns} (hb : rqB r.L) : m_runs_Runs_filter__runs_all r = some r := by
  unfold m_runs_Runs_filter__runs_all
  have := map_loop (L := fun fu s i => m_runs_Runs_filter__runs_all_l1 r fu s i) (l := r.L) (f := id) (e := fun s => GRuns.mk r.Cap s) (by have := hb.1; omega) (fun fu s => by unfold m_runs_Runs_filter__runs_all_l1; rw [d_nlt (by omega)]; rfl)
    (fun fu s i h hs => by
      conv => lhs; unfold m_runs_Runs_filter__runs_all_l1 m_runs_all
      rw [d_lt (by omega), cond_true, geti_lt h, obind_some, obind_some, cond_true, clone_ok (hb.2 _ (List.getElem_mem h)), obind_some, app_ok (by simp; omega), obind_some, inc_ok (by have := hb.1; omega)]; rfl)
  rw [List.map_id] at this; exact this
def twinB (x y : GRun) : Bool := decide (x.Place = y.Place) && decide (rk x.Bound y.Bound = 0)
theorem twinB_comm (x y : GRun) : twinB x y = twinB y x := by
  unfold twinB
  have := rk_neg x.Bound y.Bound
  rw [decide_eq_decide.2 (show x.Place = y.Place ↔ y.Place = x.Place from eq_comm), decide_eq_decide.2 (show rk x.Bound y.Bound = 0 ↔ rk y.Bound x.Bound = 0 by omega)]
theorem contains_ok {l : List GRun} {x : GRun} (hl : l.length ≤ 1000000) (hx : bdB x.Bound) : m_slices_ContainsFunc_Run__runs_Run_twin l x = some (l.any (twinB x)) := by
  unfold m_slices_ContainsFunc_Run__runs_Run_twin m_slices_IndexFunc_Run__runs_Run_twin
  have := loop1_0 (L := fun fu i => m_slices_IndexFunc_Run__runs_Run_twin_l1 l x fu i) (n := l.length) (P := fun i o => ∃ k, o = some k ∧ decide ((0 : Int) ≤ k) = (l.drop i).any (twinB x)) (by omega)
    (fun fu => by unfold m_slices_IndexFunc_Run__runs_Run_twin_l1; rw [d_nlt (by omega)]; exact ⟨-1, rfl, by simp⟩)
    (fun fu i hi ih => by
      unfold m_slices_IndexFunc_Run__runs_Run_twin_l1
      rw [d_lt (by omega), cond_true, geti_lt hi, obind_some, twin_ok hx, obind_some, inc_ok (by omega), drop_cons hi, List.any_cons]
      cases hq : twinB x l[i] with
      | true => unfold twinB at hq; rw [hq]; exact ⟨_, rfl, by first | (simp; done) | (simp; omega)⟩
      | false => unfold twinB at hq; rw [hq, cond_false, Bool.false_or]; exact ih)
  obtain ⟨k, e, h⟩ := this
  rw [e, obind_some, h]; rfl
theorem rtwin_ok {l : List GRun} {x : GRun} (hl : rqB l) (hx : bdB x.Bound) : m_telltaleref21_Twin l x = some (l.any (twinB x)) := by
  unfold m_telltaleref21_Twin
  have hll := hl.1
  have := loop1_0 (L := fun fu i => m_telltaleref21_Twin_l0 l x fu i) (n := l.length) (P := fun i o => o = some ((l.drop i).any (twinB x))) (by omega)
    (fun fu => by unfold m_telltaleref21_Twin_l0; rw [d_nlt (by omega)]; simp)
    (fun fu i hi ih => by
      unfold m_telltaleref21_Twin_l0
      have h1 := (hl.2 _ (List.getElem_mem hi)).1
      rw [d_lt (by omega), cond_true, geti_lt hi, obind_some, obind_some, rrank_ok _ _ (by omega) (by have := hx.1; omega), obind_some, inc_ok (by omega), ih, drop_cons hi, List.any_cons, twinB_comm, twinB]
      by_cases q1 : l[i].Place = x.Place <;> by_cases q2 : rk l[i].Bound x.Bound = 0 <;> simp [q1, q2])
  simpa using this
/-- With one more: what there is, and the error. -/
def addR (r : GRuns) (x : GRun) : GRuns × Int := if r.L.any (twinB x) = true then (r, 0) else if r.Cap ≤ (r.L.length : Int) then (r, 7) else (⟨r.Cap, r.L ++ [x]⟩, 0)
theorem add_ok {r : GRuns} {x : GRun} (hb : rqB r.L) (hx : bdB x.Bound) : m_runs_Runs_Add r x = some (addR r x) := by
  unfold m_runs_Runs_Add addR
  have hl := hb.1
  rw [filter_all_ok hb, obind_some, contains_ok (by omega) hx, obind_some, clone_ok hx, obind_some, app_ok (by simp; omega), obind_some]
  by_cases h : r.L.any (twinB x) = true
  · rw [if_pos h, h]; rfl
  · rw [if_neg h, Bool.eq_false_iff.2 h, cond_false]
    by_cases k : r.Cap ≤ (r.L.length : Int)
    · rw [if_pos k, decide_eq_true k]; rfl
    · rw [if_neg k, decide_eq_false k]; rfl
theorem radd_ok {r : GRuns} {x : GRun} (hb : rqB r.L) (hx : bdB x.Bound) : m_telltaleref21_Add r x = some (addR r x) := by
  unfold m_telltaleref21_Add addR
  have hl := hb.1
  rw [rtwin_ok hb hx, obind_some, app_ok (by simp; omega), obind_some, List.nil_append, app_ok (by simp; omega), obind_some]
  by_cases h : r.L.any (twinB x) = true
  · rw [if_pos h, h]; rfl
  · rw [if_neg h, Bool.eq_false_iff.2 h, cond_false]
    by_cases k : r.Cap ≤ (r.L.length : Int)
    · rw [if_pos k, decide_eq_true k]; rfl
    · rw [if_neg k, decide_eq_false k]; rfl
theorem addR_b {r : GRuns} {x : GRun} (hb : r.L.length ≤ 99 ∧ ∀ y ∈ r.L, bdB y.Bound) (hx : bdB x.Bound) : rqB (addR r x).1.L := by
  unfold addR
  split
  · exact ⟨show r.L.length ≤ 100 by have := hb.1; omega, hb.2⟩
  · split
    · exact ⟨show r.L.length ≤ 100 by have := hb.1; omega, hb.2⟩
    · refine ⟨by simp; have := hb.1; omega, fun y hy => ?_⟩
      rcases List.mem_append.1 hy with hy | hy
      · exact hb.2 y hy
      · simp only [List.mem_singleton] at hy; subst hy; exact hx
/-! ### kept -/
def keepS : List GRun → List Bool → List GRun
  | x :: l, true :: b => x :: keepS l b
  | _ :: l, false :: b => keepS l b
  | _, [] => []
  | [], _ => []
theorem keepS_b : ∀ {l : List GRun} {b : List Bool}, rqB l → rqB (keepS l b)
  | [], [], h => h
  | [], _ :: _, h => h
  | _ :: _, [], h => ⟨by simp [keepS], by simp [keepS]⟩
  | x :: l, c :: b, h => by
    have ih := keepS_b (l := l) (b := b) ⟨by have := h.1; simp at this; omega, fun y hy => h.2 y (by simp [hy])⟩
    have hlen : ∀ (l : List GRun) (b : List Bool), (keepS l b).length ≤ l.length := by
      intro l
      induction l with
      | nil => intro b; cases b <;> simp [keepS]
      | cons x l ih2 =>
        intro b
        cases b with
        | nil => simp [keepS]
        | cons c b => cases c <;> simp [keepS] <;> have := ih2 b <;> omega
    refine ⟨Nat.le_trans (hlen _ _) h.1, ?_⟩
    cases c with
    | true =>
      intro y hy
      rcases List.mem_cons.1 hy with rfl | hy
      · exact h.2 _ (by simp)
      · exact ih.2 y hy
    | false => exact ih.2
theorem keepS_nil (l : List GRun) : keepS l [] = [] := by cases l <;> rfl
theorem keepS_len : ∀ (l : List GRun) (b : List Bool), (keepS l b).length ≤ l.length
  | [], b => by cases b <;> simp [keepS]
  | x :: l, [] => by simp [keepS]
  | x :: l, true :: b => by have := keepS_len l b; simp [keepS]; omega
  | x :: l, false :: b => by have := keepS_len l b; simp [keepS]; omega
theorem keep_ok {r : GRuns} {b : List Bool} (hb : rqB r.L) (hl2 : b.length ≤ 1000) : m_runs_Runs_Keep r b = some ⟨r.Cap, keepS r.L b⟩ := by
  unfold m_runs_Runs_Keep m_runs_Runs_filter__runs_Runs_Keep_1
  have hl := hb.1
  have := loopG_0 (L := fun fu s i => m_runs_Runs_filter__runs_Runs_Keep_1_l1 r b fu s i) (n := r.L.length) (P := fun i s o => s.length ≤ i → o = some (GRuns.mk r.Cap (s ++ keepS (r.L.drop i) (b.drop i)))) (by omega)
    (fun fu s hs => by
      unfold m_runs_Runs_filter__runs_Runs_Keep_1_l1
      rw [d_nlt (by omega), cond_false, List.drop_of_length_le (Nat.le_refl _)]
      have : keepS [] (List.drop r.L.length b) = [] := by cases List.drop r.L.length b <;> rfl
      rw [this, List.append_nil])
    (fun fu s i hi ih hs => by
      unfold m_runs_Runs_filter__runs_Runs_Keep_1_l1 m_runs_Runs_Keep_1
      rw [d_lt (by omega), cond_true, geti_lt hi, obind_some, clone_ok (hb.2 _ (List.getElem_mem hi)), obind_some, app_ok (by simp; omega), obind_some, inc_ok (by omega)]
      by_cases h : i < b.length
      · rw [d_lt (by omega), cond_true, geti_lt h, obind_some, obind_some, drop_cons hi, drop_cons h]
        cases hq : b[i]
        · rw [cond_false, ih s (by omega)]; rfl
        · rw [cond_true, ih _ (by simp; omega), keepS]; simp
      · rw [d_nlt (by omega), cond_false, obind_some, cond_false, ih s (by omega), List.drop_of_length_le (show b.length ≤ i by omega), List.drop_of_length_le (show b.length ≤ i + 1 by omega), keepS_nil, keepS_nil]) [] (Nat.le_refl _)
  have e : m_runs_Runs_filter__runs_Runs_Keep_1_l1 r b 1152921504606846976 [] 0 = some ⟨r.Cap, keepS r.L b⟩ := by simpa using this
  rw [e]; rfl
theorem rkeep_ok {r : GRuns} {b : List Bool} (hb : rqB r.L) (hl2 : b.length ≤ 1000) : m_telltaleref21_Keep r b = some ⟨r.Cap, keepS r.L b⟩ := by
  unfold m_telltaleref21_Keep
  have hl := hb.1
  have := loopG_0 (L := fun fu s i => m_telltaleref21_Keep_l0 r b fu s i) (n := r.L.length) (P := fun i s o => s.length ≤ i → o = some (GRuns.mk r.Cap (s ++ keepS (r.L.drop i) (b.drop i)))) (by omega)
    (fun fu s hs => by
      unfold m_telltaleref21_Keep_l0
      rw [d_nlt (by omega), cond_false, List.drop_of_length_le (Nat.le_refl _)]
      have : keepS [] (List.drop r.L.length b) = [] := by cases List.drop r.L.length b <;> rfl
      rw [this, List.append_nil])
    (fun fu s i hi ih hs => by
      unfold m_telltaleref21_Keep_l0
      rw [d_lt (by omega), cond_true, geti_lt hi, obind_some, app_ok (by simp; omega), obind_some, inc_ok (by omega)]
      by_cases h : i < b.length
      · rw [d_lt (by omega), cond_true, geti_lt h, obind_some, drop_cons hi, drop_cons h]
        cases hq : b[i]
        · rw [cond_false, ih s (by omega)]; rfl
        · rw [cond_true, ih _ (by simp; omega), keepS]; simp
      · rw [d_nlt (by omega), cond_false, List.drop_of_length_le (show b.length ≤ i by omega), keepS_nil, List.append_nil]) [] (Nat.le_refl _)
  simpa using this
/-! ### broken -/
def orU (a b : Int) : Int := ((a.toNat ||| b.toNat : Nat) : Int)
theorem or_lt {a b : Nat} (ha : a < 4294967296) (hb : b < 4294967296) : a ||| b < 4294967296 := Nat.or_lt_two_pow (n := 32) ha hb
theorem bv_or {a b : Int} (ha : 0 ≤ a ∧ a ≤ 4294967295) (hb : 0 ≤ b ∧ b ≤ 4294967295) : IntKind.u32.wrap (((BitVec.ofInt 32 a ||| BitVec.ofInt 32 b).toNat : Nat) : Int) = orU a b := by
  rw [wu32, BitVec.toNat_or, BitVec.toNat_ofInt, BitVec.toNat_ofInt]
  have h1 : (a % (2 ^ 32 : Nat)).toNat = a.toNat := by omega
  have h2 : (b % (2 ^ 32 : Nat)).toNat = b.toNat := by omega
  rw [h1, h2]
  unfold orU
  have := or_lt (a := a.toNat) (b := b.toNat) (by omega) (by omega)
  omega
theorem bit_ok {i : Nat} (hi : i ≤ 31) : m_telltaleref18_Bit (i : Int) = some ((2 ^ i : Nat) : Int) := by
  unfold m_telltaleref18_Bit
  have := loopG (L := fun fu s j => m_telltaleref18_Bit_l0 (i : Int) fu s j) (n := i) (P := fun j s o => s = ((2 ^ j : Nat) : Int) → o = some ((2 ^ i : Nat) : Int))
    (fun fu s hs => by unfold m_telltaleref18_Bit_l0; rw [d_nlt (by omega), hs]; rfl)
    (fun fu s j hj ih hs => by
      unfold m_telltaleref18_Bit_l0
      rw [d_lt (by omega), cond_true, inc_ok (by omega)]
      refine ih _ ?_
      rw [hs, wu32]
      have h1 : 2 ^ (j + 1) ≤ 2 ^ 31 := Nat.pow_le_pow_right (by decide) (by omega)
      rw [Nat.pow_succ] at h1 ⊢
      omega) 1152921504606846976 0 1 (Nat.zero_le _) (by omega) rfl
  simpa using this
theorem has_ok {a i : Nat} (ha : a < 4294967296) (hi : i ≤ 31) : m_telltaleref18_Has (a : Int) (i : Int) = some (a.testBit i) := by
  unfold m_telltaleref18_Has
  have hp : 0 < 2 ^ i := Nat.two_pow_pos i
  rw [bit_ok hi, obind_some, chk_ok (by omega)]
  have h1 : Int.tdiv (a : Int) ((2 ^ i : Nat) : Int) = ((a / 2 ^ i : Nat) : Int) := rfl
  have h2 : a / 2 ^ i ≤ a := Nat.div_le_self _ _
  rw [h1, wu32, Nat.testBit_eq_decide_div_mod_eq]
  generalize a / 2 ^ i = q at h2 ⊢
  rw [show ((q : Nat) : Int) % 4294967296 = ((q : Nat) : Int) by omega]
  have h3 : Int.tmod ((q : Nat) : Int) 2 = ((q % 2 : Nat) : Int) := rfl
  rw [h3]
  congr 1
  exact decide_eq_decide.2 (by omega)
theorem union_ok {a b : Int} (ha : 0 ≤ a ∧ a ≤ 4294967295) (hb : 0 ≤ b ∧ b ≤ 4294967295) : m_telltaleref21_Union a b = some (orU a b) := by
  obtain ⟨a, rfl⟩ := Int.eq_ofNat_of_zero_le ha.1
  obtain ⟨b, rfl⟩ := Int.eq_ofNat_of_zero_le hb.1
  unfold m_telltaleref21_Union
  have hab := or_lt (a := a) (b := b) (by omega) (by omega)
  have := loopG (L := fun fu s j => m_telltaleref21_Union_l0 (a : Int) (b : Int) fu s j) (n := 32) (P := fun j s o => s = (((a ||| b) % 2 ^ j : Nat) : Int) → o = some ((a ||| b : Nat) : Int))
    (fun fu s hs => by unfold m_telltaleref21_Union_l0; rw [d_nlt (by omega), hs, Nat.mod_eq_of_lt hab]; rfl)
    (fun fu s j hj ih hs => by
      unfold m_telltaleref21_Union_l0
      have hm : (a ||| b) % 2 ^ (j + 1) = (a ||| b) % 2 ^ j + 2 ^ j * ((a.testBit j || b.testBit j)).toNat := by
        rw [Nat.mod_pow_succ, ← Nat.testBit_or, Nat.testBit_eq_decide_div_mod_eq]
        congr 2
        have := Nat.mod_two_eq_zero_or_one ((a ||| b) / 2 ^ j)
        rcases this with h | h <;> simp [h]
      have hlt : (a ||| b) % 2 ^ (j + 1) ≤ a ||| b := Nat.mod_le _ _
      rw [d_lt (by omega), cond_true, has_ok (by omega) (by omega), obind_some, bit_ok (by omega), obind_some, has_ok (by omega) (by omega), obind_some, inc_ok (by omega)]
      cases h1 : a.testBit j
      · cases h2 : b.testBit j
        · rw [cond_false, cond_false]
          exact ih _ (by rw [hs, hm, h1, h2]; simp)
        · rw [cond_false, cond_true]
          refine ih _ ?_
          rw [h1, h2] at hm
          simp only [Bool.or_true, Bool.toNat_true, Nat.mul_one] at hm
          rw [hs, wu32, hm]
          omega
      · rw [cond_true]
        refine ih _ ?_
        rw [h1] at hm
        simp only [Bool.true_or, Bool.toNat_true, Nat.mul_one] at hm
        rw [hs, wu32, hm]
        omega) 1152921504606846976 0 0 (Nat.zero_le _) (by omega) (by simp [Nat.mod_one])
  simpa [orU] using this
def brk (n k : Int) : Nat → List GRun → List GRun
  | _, [] => []
  | i, x :: l => (if (i : Int) = k then GRun.mk x.Place x.Bound (orU x.Broken n) else x) :: brk n k (i + 1) l
theorem brk_len (n k : Int) : ∀ (i : Nat) (l : List GRun), (brk n k i l).length = l.length
  | _, [] => rfl
  | i, x :: l => by simp [brk, brk_len n k (i + 1) l]
theorem brk_out (n k : Int) : ∀ (i : Nat) (l : List GRun), (k < i ∨ (i : Int) + l.length ≤ k) → brk n k i l = l
  | _, [], _ => rfl
  | i, x :: l, h => by
    simp only [List.length_cons] at h
    rw [brk, if_neg (by omega), brk_out n k (i + 1) l (by omega)]
theorem brk_in (n : Int) : ∀ (i j : Nat) (l : List GRun) (x : GRun), l[j]? = some x → brk n ((i + j : Nat) : Int) i l = l.set j (GRun.mk x.Place x.Bound (orU x.Broken n))
  | i, 0, [], x, h => by simp at h
  | i, 0, y :: l, x, h => by
    simp only [List.getElem?_cons_zero, Option.some.injEq] at h
    subst h
    rw [brk, if_pos (by omega), brk_out _ _ _ _ (by omega)]; rfl
  | i, j + 1, [], x, h => by simp at h
  | i, j + 1, y :: l, x, h => by
    rw [brk, if_neg (by omega), show i + (j + 1) = (i + 1) + j by omega, brk_in n (i + 1) j l x (by simpa using h)]; rfl
theorem brk_mem {n k : Int} : ∀ {i : Nat} {l : List GRun} {y : GRun}, y ∈ brk n k i l → ∃ x ∈ l, y.Bound = x.Bound
  | _, [], _, h => by simp [brk] at h
  | i, x :: l, y, h => by
    rw [brk] at h
    rcases List.mem_cons.1 h with rfl | h
    · exact ⟨x, by simp, by split <;> rfl⟩
    · obtain ⟨z, h1, h2⟩ := brk_mem h
      exact ⟨z, by simp [h1], h2⟩
theorem brk_b {n k : Int} {l : List GRun} (h : rqB l) : rqB (brk n k 0 l) := ⟨by rw [brk_len]; exact h.1, fun y hy => by obtain ⟨x, h1, h2⟩ := brk_mem hy; rw [h2]; exact h.2 x h1⟩
def u32s (l : List GRun) : Prop := ∀ x ∈ l, 0 ≤ x.Broken ∧ x.Broken ≤ 4294967295
theorem break_ok {r : GRuns} {k n : Int} (hb : rqB r.L) (hu : u32s r.L) (hn : 0 ≤ n ∧ n ≤ 4294967295) : m_runs_Runs_Break r k n = some ⟨r.Cap, brk n k 0 r.L⟩ := by
  unfold m_runs_Runs_Break
  rw [filter_all_ok hb, obind_some]
  by_cases h1 : 0 ≤ k
  · obtain ⟨k, rfl⟩ := Int.eq_ofNat_of_zero_le h1
    rw [decide_eq_true h1, cond_true]
    by_cases h2 : k < r.L.length
    · rw [d_lt (by omega), cond_true, geti_lt h2, obind_some, obind_some, bv_or (hu _ (List.getElem_mem h2)) hn]
      have := brk_in n 0 k r.L r.L[k] (List.getElem?_eq_getElem h2)
      rw [Nat.zero_add] at this
      rw [this]; rfl
    · rw [d_nlt (by omega), cond_false, brk_out _ _ _ _ (by omega)]
  · rw [decide_eq_false h1, cond_false, brk_out _ _ _ _ (by omega)]
theorem rbreak_ok {r : GRuns} {k n : Int} (hb : rqB r.L) (hu : u32s r.L) (hn : 0 ≤ n ∧ n ≤ 4294967295) : m_telltaleref21_Break r k n = some ⟨r.Cap, brk n k 0 r.L⟩ := by
  unfold m_telltaleref21_Break
  have hl := hb.1
  have := loopG_0 (L := fun fu s i => m_telltaleref21_Break_l0 r k n fu s i) (n := r.L.length) (P := fun i s o => s.length ≤ i → o = some (GRuns.mk r.Cap (s ++ brk n k i (r.L.drop i)))) (by omega)
    (fun fu s hs => by unfold m_telltaleref21_Break_l0; rw [d_nlt (by omega), cond_false, List.drop_of_length_le (Nat.le_refl _)]; simp [brk])
    (fun fu s i hi ih hs => by
      unfold m_telltaleref21_Break_l0 m_telltaleref21_Break_j4
      rw [d_lt (by omega), cond_true, geti_lt hi, obind_some, union_ok (hu _ (List.getElem_mem hi)) hn, obind_some, app_ok (by simp; omega), obind_some, app_ok (by simp; omega), obind_some, inc_ok (by omega), drop_cons hi, brk]
      by_cases h : (i : Int) = k
      · rw [decide_eq_true h, cond_true, if_pos h]
        exact (ih (s ++ [_]) (by simp; omega)).trans (by simp)
      · rw [decide_eq_false h, cond_false, if_neg h]
        exact (ih (s ++ [_]) (by simp; omega)).trans (by simp)) [] (Nat.le_refl _)
  simpa using this
/-! ### the least -/
def stepL (a : Int × Bool) (x : GRun) : Int × Bool := match x.Bound with
  | [] => a
  | p :: _ => if a.2 = false ∨ p.E.Time < a.1 then (p.E.Time, true) else a
theorem least_ok {r : GRuns} (hb : rqB r.L) : m_runs_Runs_Least r = some (r.L.foldl stepL (0, false)) := by
  unfold m_runs_Runs_Least
  have hl := hb.1
  have := loopG_0 (L := fun fu (s : Int × Bool) i => m_runs_Runs_Least_l1 r fu s.1 s.2 i) (n := r.L.length) (P := fun i s o => o = some ((r.L.drop i).foldl stepL s)) (by omega)
    (fun fu s => by unfold m_runs_Runs_Least_l1; rw [d_nlt (by omega), cond_false, List.drop_of_length_le (Nat.le_refl _)]; rfl)
    (fun fu s i hi ih => by
      unfold m_runs_Runs_Least_l1
      have hbi := (hb.2 _ (List.getElem_mem hi)).1
      obtain ⟨a, b, e, k⟩ := span_ok (l := r.L[i].Bound) (by omega)
      rw [d_lt (by omega), cond_true, geti_lt hi, obind_some, e, obind_some, inc_ok (by omega), drop_cons hi, List.foldl_cons, ih (a, true), ih s]
      cases hx : r.L[i].Bound with
      | nil => simp [stepL, hx]
      | cons p q =>
        have hk := (k p q hx).1
        subst hk
        simp only [List.isEmpty_cons, Bool.not_false, cond_true, stepL, hx]
        obtain ⟨s1, s2⟩ := s
        cases s2
        · simp
        · by_cases h : p.E.Time < s1 <;> simp [h]) (0, false)
  simpa using this
theorem rleast_ok {r : GRuns} (hb : rqB r.L) : m_telltaleref21_Least r = some (r.L.foldl stepL (0, false)) := by
  unfold m_telltaleref21_Least
  have hl := hb.1
  have := loopG_0 (L := fun fu (s : Int × Bool) i => m_telltaleref21_Least_l0 r fu s.1 s.2 i) (n := r.L.length) (P := fun i s o => o = some ((r.L.drop i).foldl stepL s)) (by omega)
    (fun fu s => by unfold m_telltaleref21_Least_l0; rw [d_nlt (by omega), cond_false, List.drop_of_length_le (Nat.le_refl _)]; rfl)
    (fun fu s i hi ih => by
      unfold m_telltaleref21_Least_l0
      rw [d_lt (by omega), cond_true, geti_lt hi, obind_some, inc_ok (by omega), drop_cons hi, List.foldl_cons]
      obtain ⟨s1, s2⟩ := s
      rw [ih (s1, s2)]
      cases hx : r.L[i].Bound with
      | nil => simp [stepL, hx]
      | cons p q =>
        rw [d_lt (by rw [List.length_cons]; omega), cond_true]
        simp only [obind_some, geti_0, hx, stepL]
        rw [ih (p.E.Time, true)]
        cases s2
        · simp
        · by_cases h : p.E.Time < s1 <;> simp [h]) (0, false)
  simpa using this
theorem new_ok (n : Int) : m_runs_New n = m_telltaleref21_New n := rfl
theorem new_some (n : Int) : ∃ x, m_telltaleref21_New n = some x := by
  unfold m_telltaleref21_New
  by_cases h : n < 1
  · rw [d_lt h]; exact ⟨_, rfl⟩
  · by_cases k : 4096 < n
    · rw [d_nlt h, d_lt k]; exact ⟨_, rfl⟩
    · rw [d_nlt h, d_nlt k]; exact ⟨_, rfl⟩
theorem wf_u32 {l : List GRun} (h : ∀ x ∈ l, wf_GRun x) : u32s l := fun x hx => in_u32 (h x hx).Broken
theorem main_RunsDo (l : GArr2_GRuns) (x : GRun) (b : List Bool) (hl : wf_GArr2_GRuns l) (hx : wf_GRun x) (hb : wfL wfT b) : m_telltalelaw21_RunsDo l x b = some true := by
  unfold m_telltalelaw21_RunsDo m_telltalelaw21_RunsDo_j1 m_telltalelaw21_RunsDo_j10
  obtain ⟨n0, e0, q0⟩ := over21_ok (r := l.a0) hl.a0.L.2
  obtain ⟨n1, e1, q1⟩ := over21_ok (r := l.a1) hl.a1.L.2
  obtain ⟨n2, e2, q2⟩ := over21_ok (r := GRuns.mk 0 [x]) (by simpa using hx)
  rw [awake_ok, e0, obind_some]
  rcases q0 with rfl | ⟨rfl, q0⟩
  · rfl
  rw [d_nlt (by decide), cond_false, e1, obind_some]
  rcases q1 with rfl | ⟨rfl, q1⟩
  · rfl
  rw [d_nlt (by decide), cond_false, e2, obind_some]
  rcases q2 with rfl | ⟨rfl, q2⟩
  · rfl
  rw [d_nlt (by decide), cond_false]
  by_cases hbl : 40 < b.length
  · rw [d_lt (by omega)]; rfl
  have hxb : bdB x.Bound := q2.2 x (by simp)
  have ha := q0.q
  have hc := q1.q
  have hadd : rqB (addR l.a0 x).1.L := addR_b ⟨by have := q0.1; omega, q0.2⟩ hxb
  have hkeep := keepS_b (b := b) ha
  have hbrk := brk_b (n := x.Broken) (k := x.Place) ha
  have hu := wf_u32 hl.a0.L.2
  have hn := in_u32 hx.Broken
  obtain ⟨nw, enw⟩ := new_some l.a0.Cap
  rw [d_nlt (by omega), cond_false, all_ok ha, obind_some, own21_ok hxb, obind_some, add_ok ha hxb, obind_some, radd_ok ha hxb, obind_some, new_ok, enw, obind_some, obind_some, back21_ok hadd, obind_some, rsame_ok hadd hadd, obind_some, sameG_self]
  rw [Bool.not_true, cond_false, decide_eq_false (by simp), cond_false, decide_eq_false (by simp), cond_false, keep_ok ha (by omega), obind_some, back21_ok hkeep, obind_some, rkeep_ok ha (by omega), obind_some, rsame_ok hkeep hkeep, obind_some, sameG_self]
  rw [Bool.not_true, cond_false, break_ok ha hu hn, obind_some, back21_ok hbrk, obind_some, rbreak_ok ha hu hn, obind_some, rsame_ok hbrk hbrk, obind_some, sameG_self, Bool.not_true, cond_false]
  rw [least_ok ha, obind_some, rleast_ok ha, obind_some, decide_eq_true rfl, cond_true, decide_eq_true rfl, cond_true, back21_ok ha, obind_some, rsame_ok ha ha, obind_some, sameG_self, cond_true, all_ok hc, obind_some, same_ok ha hc, obind_some, rsame_ok ha hc, obind_some, decide_eq_true rfl]
  rfl
theorem main_RunsPrunes (r : GRuns) (t w : Int) (hw : wf_GRuns r) (ht : -9223372036854775808 ≤ t ∧ t ≤ 9223372036854775807) (hw' : -9223372036854775808 ≤ w ∧ w ≤ 9223372036854775807) : m_telltalelaw21_RunsPrunes r t w = some true := by
  unfold m_telltalelaw21_RunsPrunes
  obtain ⟨n, e, q⟩ := over21_ok (r := r) hw.L.2
  rw [e, obind_some]
  rcases q with rfl | ⟨rfl, q⟩
  · rw [awake_ok]; rfl
  · have hb := q.q
    have hb2 := rqB_filter hb (stays t w)
    rw [d_nlt (by decide), cond_false, all_ok hb, obind_some, prune_ok hb, obind_some, back21_ok hb2, obind_some, rprune_ok hb, obind_some, rsame_ok hb2 hb2, obind_some, sameG_self, awake_ok]; rfl
end Go.Proofs.Ytlbajkdbbffefaa.K
