/- BindTells by models. -/
import Derived.Test.YtkagljfmfjaleaaPmat
namespace Go.Proofs.Ytkagljfmfjaleaa.K
open Go.RowKit Go.Lib
set_option linter.unusedVariables false
set_option linter.unusedSimpArgs false
theorem last_ok {l : List GPair} {n : List UInt8} (hl : l.length ≤ 1000000) : m_telltaleref19_Last l n = m_bind_Last l n := by
  unfold m_telltaleref19_Last m_bind_Last
  rw [chk_ok (by omega), w64 (by omega) (by omega)]
  have h : ∀ (fu k : Nat), k ≤ l.length → k < fu → m_telltaleref19_Last_l1 l n fu ((k : Int) - 1) = match (l.take k).reverse.find? (fun p => decide (p.Var = n)) with
      | some p => some (p.E, true)
      | none => some (GEvent.mk 0 0 0 [] [], false) := by
    intro fu
    induction fu with
    | zero => intro k _ h; omega
    | succ fu ih =>
      intro k hk hf
      unfold m_telltaleref19_Last_l1
      cases k with
      | zero => rw [decide_eq_false (by omega), cond_false]; rfl
      | succ k =>
        rw [show (((k + 1 : Nat) : Int) - 1) = (k : Int) by omega, decide_eq_true (by omega), cond_true, geti_lt (by omega), obind_some, take_snoc (by omega), List.reverse_append, List.reverse_singleton, List.singleton_append, List.find?_cons]
        by_cases e : l[k].Var = n
        · rw [decide_eq_true e, cond_true, obind_some]
        · rw [decide_eq_false e, cond_false, w64 (by omega) (by omega), ih k (by omega) (by omega)]
  have := h 1152921504606846976 l.length (Nat.le_refl _) (by omega)
  rw [List.take_of_length_le (Nat.le_refl _)] at this
  exact this
theorem last_some {l : List GPair} {n : List UInt8} (hl : bdB l) : ∃ e b, m_bind_Last l n = some (e, b) ∧ e.Vals.length ≤ 1000 := by
  unfold m_bind_Last
  rw [chk_ok (by have := hl.1; omega)]
  cases h : l.reverse.find? (fun p => decide (p.Var = n)) with
  | none => exact ⟨_, _, rfl, by simp⟩
  | some p =>
    have := List.mem_reverse.1 (List.mem_of_find?_eq_some h)
    have := (hl.2 _ this).2.2.1
    exact ⟨_, _, rfl, by omega⟩
theorem idless_ok (a b : GEvent) : m_event_ID_Less (GID.mk a.Time a.Source a.Seq) (GID.mk b.Time b.Source b.Seq) = m_telltaleref07_Less a b := rfl
theorem dec_ok {i : Nat} (h : 1 ≤ i) (h2 : i ≤ 1000000) : IntKind.i64.wrap ((i : Int) - 1) = ((i - 1 : Nat) : Int) := by rw [w64 (by omega) (by omega)]; omega
theorem rising_ok {l : List GPair} (hl : l.length ≤ 1000) : ∃ b, m_bind_Rising l = some b ∧ m_telltaleref19_Rising l = some b := by
  unfold m_bind_Rising m_telltaleref19_Rising
  have h : ∀ (fu i : Nat), 1 ≤ i → l.length < i + fu → i ≤ l.length + 1 → ∃ b, m_bind_Rising_l0 l (fu + 1) (i : Int) = some b ∧ m_telltaleref19_Rising_l0 l (fu + 1) (i : Int) = some b := by
    intro fu
    induction fu with
    | zero =>
      intro i h1 h2 h3
      unfold m_bind_Rising_l0 m_telltaleref19_Rising_l0
      rw [d_nlt (by omega)]; exact ⟨true, rfl, rfl⟩
    | succ fu ih =>
      intro i h1 h2 h3
      unfold m_bind_Rising_l0 m_telltaleref19_Rising_l0
      by_cases hi : i < l.length
      · rw [d_lt (by omega), cond_true, cond_true, dec_ok h1 (by omega), geti_lt (by omega), obind_some, obind_some]
        unfold m_event_Event_ID
        simp only [geti_lt hi, obind_some]
        rw [idless_ok, less_ok, obind_some, obind_some]
        by_cases q : ordE l[i - 1].E l[i].E < 0
        · rw [decide_eq_true q]
          show ∃ b, m_bind_Rising_l0 l (fu + 1) _ = some b ∧ m_telltaleref19_Rising_l0 l (fu + 1) _ = some b
          rw [inc_ok (by omega)]
          exact ih (i + 1) (by omega) (by omega) (by omega)
        · rw [decide_eq_false q]; exact ⟨false, rfl, rfl⟩
      · rw [d_nlt (by omega)]; exact ⟨true, rfl, rfl⟩
  have := h 1152921504606846975 1 (Nat.le_refl _) (by omega) (by omega)
  exact this
theorem add_ok {l : List GPair} {n : List UInt8} {e : GEvent} (hl : l.length ≤ 1000) : m_bind_Add l n e = some (l ++ [GPair.mk n e]) := by
  unfold m_bind_Add
  rw [app_ok (by simp; omega)]; rfl
theorem radd_ok {l : List GPair} {n : List UInt8} {e : GEvent} (hl : l.length ≤ 1000) : m_telltaleref19_Add l n e = some (l ++ [GPair.mk n e]) := by
  unfold m_telltaleref19_Add
  rw [app_ok (by simp; omega), obind_some, app_ok (by simp; omega)]; rfl
theorem bpairs_ok' {l : List GPair} (hl : l.length ≤ 1000) (hb : ∀ p ∈ l, prB p) : m_telltalelaw19_BackPairs l = some l := by
  have := map_loop (L := fun fu s i => m_telltalelaw19_BackPairs_l0 l fu s i) (l := l) (f := id) (e := id) (by omega) (fun fu s => by unfold m_telltalelaw19_BackPairs_l0; rw [d_nlt (by omega)]; rfl)
    (fun fu s i h hs => by
      have hi := (hb _ (List.getElem_mem h)).2.2.1
      conv => lhs; unfold m_telltalelaw19_BackPairs_l0
      rw [d_lt (by omega), cond_true, geti_lt h, obind_some, obind_some, back_ok (by omega), obind_some, app_ok (by simp; omega), obind_some, inc_ok (by omega)]; rfl)
  rw [List.map_id] at this; exact this
theorem long1_ok {p : GPair} (hw : wf_GPair p) : ∃ r, m_telltalelaw19_Long [p] = some r ∧ (r = 1 ∨ r = 0 ∧ prB p) := by
  obtain ⟨r, e, q⟩ := long_ok (l := [p]) (by simpa using hw)
  exact ⟨r, e, q.imp id fun ⟨a, b⟩ => ⟨a, b.2 p (by simp)⟩⟩
theorem tells_j14 {x : GArr2_List_GPair} {p : GPair} (h0 : bdB x.a0) (h1 : bdB x.a1) (hp : prB p) {s : GEvent × Bool} (hs : m_bind_Last x.a0 p.Var = some s) :
    m_telltalelaw19_BindTells_j14 x p x.a0 x.a1 s s (x.a0 ++ [GPair.mk p.Var p.E]) (x.a0 ++ [GPair.mk [111, 116, 104, 101, 114] (GEvent.mk 0 0 0 [] [])]) = some true := by
  have hl := h0.1
  have hm : ∀ q ∈ x.a0 ++ [GPair.mk p.Var p.E], prB q := fun q hq => by
    rcases List.mem_append.1 hq with hq | hq
    · exact h0.2 q hq
    · simp only [List.mem_singleton] at hq; subst hq; exact hp
  have hpv : pvB (x.a0 ++ [GPair.mk p.Var p.E]) := ⟨by simp; omega, fun q hq => by have := (hm q hq).2.2.1; omega⟩
  obtain ⟨e, b, hs', hv⟩ := last_some (n := p.Var) h0
  rw [hs'] at hs; cases hs
  have hv1 : (e, b).1.Vals.length ≤ 1000 := hv
  obtain ⟨b', r1, r2⟩ := rising_ok (l := x.a0) (by omega)
  unfold m_telltalelaw19_BindTells_j14
  rw [bpairs_ok' (by simp; omega) hm, obind_some, radd_ok (by omega), obind_some, back_ok (by omega), obind_some, rsame_ok (by omega) (by omega), obind_some, decide_eq_true rfl, cond_true, decide_eq_true rfl, cond_true, rsame19_ok hpv hpv, obind_some, decide_eq_true rfl, cond_true,
    decide_eq_true (by simp), cond_true, bpairs_ok h0, obind_some, rsame19_ok h0.pv h0.pv, obind_some, decide_eq_true rfl, cond_true, r1, obind_some, r2, obind_some, decide_eq_true rfl, cond_true, rank_ok _ _ (by omega), obind_some, rrank_ok _ _ (by omega) (by have := h1.1; omega), obind_some, decide_eq_true rfl, cond_true, awake_ok]; rfl
theorem main_BindTells (x : GArr2_List_GPair) (p : GPair) (hx : wf_GArr2_List_GPair x) (hp : wf_GPair p) : m_telltalelaw19_BindTells x p = some true := by
  unfold m_telltalelaw19_BindTells m_telltalelaw19_BindTells_j1 m_telltalelaw19_BindTells_j11
  obtain ⟨r0, e0, q0⟩ := long_ok (l := x.a0) hx.a0.2
  rw [e0, obind_some]
  rcases q0 with rfl | ⟨rfl, q0⟩
  · rw [d_lt (by decide), cond_true, awake_ok]; rfl
  rw [d_nlt (by decide), cond_false]
  obtain ⟨r1, e1, q1⟩ := long_ok (l := x.a1) hx.a1.2
  rw [e1, obind_some]
  rcases q1 with rfl | ⟨rfl, q1⟩
  · rw [d_lt (by decide), cond_true, awake_ok]; rfl
  rw [d_nlt (by decide), cond_false]
  obtain ⟨r2, e2, q2⟩ := long1_ok hp
  rw [e2, obind_some]
  rcases q2 with rfl | ⟨rfl, q2⟩
  · rw [d_lt (by decide), cond_true, awake_ok]; rfl
  rw [d_nlt (by decide), cond_false]
  have hl := q0.1
  obtain ⟨e, b, hs, hv⟩ := last_some (n := p.Var) q0
  have hv2 := q2.2.2.1
  obtain ⟨a, c, hsp, hk⟩ := span_ok (l := x.a0) (by omega)
  have hj := tells_j14 q0 q1 q2 hs
  unfold m_telltalelaw19_BindTells_j12 m_telltalelaw19_BindTells_j13
  rw [pairs_ok q0, obind_some, pairs_ok q1, obind_some, hs, obind_some, last_ok (by omega), hs, obind_some, own_ok (by omega), obind_some, add_ok (by omega), obind_some, add_ok (by omega), obind_some, hsp, obind_some]
  cases hx0 : x.a0 with
  | nil =>
    rw [hx0] at hj hsp
    have : (a, c) = (0, 0) := by
      have := hsp; unfold m_bind_Span at this; simpa using this.symm
    cases this
    exact hj
  | cons y l =>
    rw [hx0] at hj
    obtain ⟨ha, hc⟩ := hk y l hx0
    have hlen : (y :: l).length ≤ 20 := by rw [← hx0]; exact hl
    have e : geti (y :: l) (((y :: l).length : Int) - 1) = some ((y :: l).getLast (by simp)) := by
      refine geti_of (k := l.length) (by simp) ?_
      rw [List.getLast_eq_getElem]; simp
    rw [decide_eq_false (by simp), cond_false]
    show cond true _ _ = _
    rw [cond_true, geti_0, obind_some, decide_eq_false (by simp [ha]), cond_false, w64 (by omega) (by omega), e, obind_some, decide_eq_false (by simp [hc]), cond_false]
    exact hj
end Go.Proofs.Ytkagljfmfjaleaa.K
