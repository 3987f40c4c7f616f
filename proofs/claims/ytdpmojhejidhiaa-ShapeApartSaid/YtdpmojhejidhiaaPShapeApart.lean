/- ShapeApart by models. -/
import Derived.Test.YtdpmojhejidhiaaMse
namespace Go.Proofs.Ytdpmojhejidhiaa.K
open Go.RowKit Go.Lib
set_option linter.unusedVariables false
set_option linter.unusedSimpArgs false
theorem ssame_one (n m : GNode) (hl : n.Test.length ≤ 1000000) : m_shape_same n m = some (decide (n = m)) := by
  unfold m_shape_same m_shape_same_j1
  rw [psame_ok hl, obind_some]
  have e : decide (n = m) = (decide (((n.Kind.toNat : Nat) : Int) = ((m.Kind.toNat : Nat) : Int)) && (decide (n.Kids = m.Kids) && (decide (n.Lo = m.Lo) && (decide (n.Hi = m.Hi) && (decide (n.Var = m.Var) && (decide (n.Type_ = m.Type_) && decide (n.Test = m.Test))))))) := by
    obtain ⟨a, b, c, d, f, g, h⟩ := n
    obtain ⟨a', b', c', d', f', g', h'⟩ := m
    simp only [u8i, GNode.mk.injEq, Bool.decide_and]
  rw [e]
  cases decide (((n.Kind.toNat : Nat) : Int) = ((m.Kind.toNat : Nat) : Int)) <;> cases decide (n.Kids = m.Kids) <;> cases decide (n.Lo = m.Lo) <;> cases decide (n.Hi = m.Hi) <;> cases decide (n.Var = m.Var) <;> cases decide (n.Type_ = m.Type_) <;> rfl
theorem ssame_ok {p q : GPattern} (hl : p.Body.length ≤ 1000) (hS : sS p.Body) : m_shape_Same p q = some (decide (p = q)) := by
  unfold m_shape_Same
  have hb : m_slices_EqualFunc_Nodeshape_Node_shape_Node_shape_Node__shape_same p.Body q.Body = some (decide (p.Body = q.Body)) := by
    unfold m_slices_EqualFunc_Nodeshape_Node_shape_Node_shape_Node__shape_same
    by_cases h : p.Body.length = q.Body.length
    · rw [decide_eq_false (by simp [h]), cond_false]
      exact eq_loop (L := fun fu i => m_slices_EqualFunc_Nodeshape_Node_shape_Node_shape_Node__shape_same_l2 p.Body q.Body fu i) h (by omega) (fun fu => by unfold m_slices_EqualFunc_Nodeshape_Node_shape_Node_shape_Node__shape_same_l2; rw [d_nlt (by omega)]; rfl)
        (fun fu i h1 h2 => by
          have := (hS p.Body[i] (List.getElem_mem h1)).2.2.1
          conv => lhs; unfold m_slices_EqualFunc_Nodeshape_Node_shape_Node_shape_Node__shape_same_l2
          rw [d_lt (by omega), cond_true, geti_lt h1, obind_some, geti_lt h2, obind_some, ssame_one _ _ (by omega), obind_some, inc_ok (by omega)]
          by_cases e : p.Body[i] = q.Body[i]
          · rw [decide_eq_true e, if_pos e]; rfl
          · rw [decide_eq_false e, if_neg e]; rfl)
    · rw [decide_eq_true (by omega), cond_true, decide_eq_false (fun e => h (by rw [e]))]
  rw [hb, obind_some]
  have e : decide (p = q) = (decide (p.Within = q.Within) && (decide (p.By = q.By) && (decide (((p.Mode.toNat : Nat) : Int) = ((q.Mode.toNat : Nat) : Int)) && decide (p.Body = q.Body)))) := by
    obtain ⟨a, b, c, d⟩ := p
    obtain ⟨a', b', c', d'⟩ := q
    simp only [u8i, GPattern.mk.injEq, ← Bool.decide_and]
    exact decide_eq_decide.2 ⟨fun ⟨h1, h2, h3, h4⟩ => ⟨h2, h3, h4, h1⟩, fun ⟨h2, h3, h4, h1⟩ => ⟨h1, h2, h3, h4⟩⟩
  rw [e]
  cases decide (p.Within = q.Within) <;> cases decide (p.By = q.By) <;> cases decide (((p.Mode.toNat : Nat) : Int) = ((q.Mode.toNat : Nat) : Int)) <;> rfl
/-! ### what stands behind a body -/
theorem dig_tailc {c : UInt8} (h : 48 ≤ c.toNat ∧ c.toNat ≤ 57) : tailc c = true := by
  unfold tailc
  rw [decide_eq_true h.1, decide_eq_true h.2]; simp
theorem wrdM_form {m : UInt8} (h : wrdM m ≠ []) : (m = 1 ∧ wrdM m = [97, 110, 121]) ∨ (m = 2 ∧ wrdM m = [110, 101, 120, 116]) ∨ (m = 3 ∧ wrdM m = [115, 116, 114, 105, 99, 116]) := by
  unfold wrdM at h ⊢
  by_cases a : m.toNat = 1
  · rw [if_pos a]; exact .inl ⟨UInt8.toNat_inj.1 a, rfl⟩
  rw [if_neg a] at h ⊢
  by_cases b : m.toNat = 2
  · rw [if_pos b]; exact .inr (.inl ⟨UInt8.toNat_inj.1 b, rfl⟩)
  rw [if_neg b] at h ⊢
  by_cases c : m.toNat = 3
  · rw [if_pos c]; exact .inr (.inr ⟨UInt8.toNat_inj.1 c, rfl⟩)
  · rw [if_neg c] at h; exact absurd rfl h
theorem wrdM_inj {m k : UInt8} (hm : wrdM m ≠ []) (hk : wrdM k ≠ []) (e : wrdM m = wrdM k) : m = k := by
  rcases wrdM_form hm with ⟨a, b⟩ | ⟨a, b⟩ | ⟨a, b⟩ <;> rcases wrdM_form hk with ⟨c, d⟩ | ⟨c, d⟩ | ⟨c, d⟩ <;> rw [b, d] at e <;> first | exact a.trans c.symm | exact absurd e (by decide)
theorem wrdM_head {m : UInt8} (hm : wrdM m ≠ []) (r : Bts) : wrdM m ≠ 98 :: r := fun e => by
  rcases wrdM_form hm with ⟨a, b⟩ | ⟨a, b⟩ | ⟨a, b⟩ <;> rw [b] at e <;> cases e
theorem decS_tail {k : Int} (h : 1 ≤ k) : ∀ c ∈ decS k, tailc c = true := fun c hc => by
  unfold decS at hc
  rw [if_neg (by omega)] at hc
  exact dig_tailc (dec_rng _ c hc)
theorem tl_inj {p q : GPattern} (hp : talP p = 0) (hq : talP q = 0) (h : tlS p = tlS q) : p.Within = q.Within ∧ p.By = q.By ∧ p.Mode = q.Mode := by
  obtain ⟨p1, p2, p3, p4⟩ := tal_of hp
  obtain ⟨q1, q2, q3, q4⟩ := tal_of hq
  have form : ∀ z : GPattern, tlS z = [32, 119, 105, 116, 104, 105, 110, 32] ++ (decS z.Within ++ ((if z.By ≠ [] then [32, 98, 121, 32] ++ z.By else []) ++ (32 :: wrdM z.Mode))) := fun z => by unfold tlS; simp
  have hst : ∀ z : GPattern, ∀ c r, (if z.By ≠ [] then [32, 98, 121, 32] ++ z.By else []) ++ (32 :: wrdM z.Mode) = c :: r → tailc c = false := fun z c r e => by
    split at e
    · have := (List.cons.inj (show 32 :: _ = c :: r from e)).1; subst this; rfl
    · have := (List.cons.inj (show 32 :: _ = c :: r from e)).1; subst this; rfl
  rw [form p, form q] at h
  have h := List.append_cancel_left h
  have sp := span_tail (decS_tail p1) (hst p)
  have sq := span_tail (decS_tail q1) (hst q)
  have eW : decS p.Within = decS q.Within := by rw [← sp.1, ← sq.1, h]
  refine ⟨decS_inj eW, ?_⟩
  have eR : (if p.By ≠ [] then [32, 98, 121, 32] ++ p.By else []) ++ (32 :: wrdM p.Mode) = (if q.By ≠ [] then [32, 98, 121, 32] ++ q.By else []) ++ (32 :: wrdM q.Mode) := by rw [← sp.2, h, sq.2]
  by_cases a : p.By = []
  · rw [if_neg (by simp [a])] at eR
    by_cases b : q.By = []
    · rw [if_neg (by simp [b])] at eR
      exact ⟨a.trans b.symm, wrdM_inj p4 q4 (List.cons.inj eR).2⟩
    · rw [if_pos b] at eR
      exact absurd (List.cons.inj eR).2 (wrdM_head p4 _)
  · rw [if_pos a] at eR
    have np : nameB p.By = true := p3.resolve_left a
    by_cases b : q.By = []
    · rw [if_neg (by simp [b])] at eR
      exact absurd (List.cons.inj eR).2.symm (wrdM_head q4 _)
    · rw [if_pos b] at eR
      have nq : nameB q.By = true := q3.resolve_left b
      rw [List.append_assoc, List.append_assoc] at eR
      have eR := List.append_cancel_left eR
      have s1 := span_tail (x := 32 :: wrdM p.Mode) (name_all np).2.1 (fun c r e => by cases e; rfl)
      have s2 := span_tail (x := 32 :: wrdM q.Mode) (name_all nq).2.1 (fun c r e => by cases e; rfl)
      have e1 : p.By = q.By := by rw [← s1.1, ← s2.1, eR]
      have e2 : 32 :: wrdM p.Mode = 32 :: wrdM q.Mode := by rw [← s1.2, ← s2.2, eR]
      exact ⟨e1, wrdM_inj p4 q4 (List.cons.inj e2).2⟩
/-- The reader gives a pattern's body back. -/
theorem read_ok {n : GNode} {k : SF} (ok : (SF.cons n k .nil).ok 16 0) (hS : sS (SF.cons n k .nil).flat) (hl : (SF.cons n k .nil).flat.length ≤ 40) (p : GPattern) : pA 100 (trT 0 n (k.txs n.Kind) ++ tlS p) = (.cons (lab n) k.raw .nil, tlS p) := by
  have hfl : (SF.cons n k .nil).flat.length = k.flat.length + 1 := by simp [SF.flat]
  have e : ∃ r, tlS p = 32 :: 119 :: r := ⟨[105, 116, 104, 105, 110, 32] ++ decS p.Within ++ (if p.By ≠ [] then [32, 98, 121, 32] ++ p.By else []) ++ [32] ++ wrdM p.Mode, by unfold tlS; simp⟩
  obtain ⟨r, e⟩ := e
  have hr := (rdF ok hS hl).1
  exact hr.A 99 (tlS p) (by omega) (by rw [e]; exact stU_sp _) (by rw [e]; intro r' e'; cases e') (by rw [e]; intro r' e'; cases e')
theorem apart {p q : GPattern} (hp : chkP p = 0) (hq : chkP q = 0) (sp : sS p.Body) (sq : sS q.Body) (bp : p.By.length ≤ 40) (bq : q.By.length ≤ 40) : ∃ s t, m_shape_Print p = some s ∧ m_shape_Print q = some t ∧ (s = t ↔ p = q) := by
  obtain ⟨n, k, e1, o1, l1, t1⟩ := chkP_tree hp
  obtain ⟨m, j, e2, o2, l2, t2⟩ := chkP_tree hq
  refine ⟨_, _, sprint_ok o1 e1 l1 t1 sp bp, sprint_ok o2 e2 l2 t2 sq bq, fun h => ?_, fun h => ?_⟩
  · have r1 := read_ok o1 (e1 ▸ sp) (e1 ▸ l1) p
    have r2 := read_ok o2 (e2 ▸ sq) (e2 ▸ l2) q
    rw [h, r2] at r1
    have ht := tl_inj t1 t2 (Prod.mk.inj r1).2.symm
    have hb : SF.cons m j .nil = SF.cons n k .nil := sraw_inj o2 o1 (e2 ▸ sq) (e1 ▸ sp) (Prod.mk.inj r1).1
    have eb : p.Body = q.Body := by rw [e1, e2, hb]
    cases p; cases q; simp_all
  · subst h
    have a := sprint_ok o1 e1 l1 t1 sp bp
    have b := sprint_ok o2 e2 l2 t2 sq bq
    rw [a] at b
    exact Option.some.inj b
theorem main_ShapeApart (p q : GPattern) (hp : wf_GPattern p) (hq : wf_GPattern q) : m_telltalelaw13_ShapeApart p q = some true := by
  unfold m_telltalelaw13_ShapeApart
  obtain ⟨r0, e0, q0⟩ := sover_ok (p := p) hp.Body.2
  rw [e0, obind_some, sawake_ok]
  rcases q0 with rfl | ⟨rfl, hl, hby, hS⟩
  · rfl
  rw [d_nlt (by decide), cond_false]
  obtain ⟨r1, e1, q1⟩ := sover_ok (p := q) hq.Body.2
  rw [e1, obind_some]
  rcases q1 with rfl | ⟨rfl, hl', hby', hS'⟩
  · rfl
  rw [d_nlt (by decide), cond_false, sown_ok (by omega) hS, obind_some, sown_ok (by omega) hS', obind_some, scheck_ok hl hS, obind_some]
  by_cases c : chkP p = 0
  · rw [decide_eq_false (by simp [c]), cond_false, scheck_ok hl' hS', obind_some]
    by_cases c' : chkP q = 0
    · obtain ⟨s, t, h1, h2, h3⟩ := apart c c' hS hS' hby hby'
      rw [decide_eq_false (by simp [c']), cond_false, h1, obind_some, h2, obind_some, ssame_ok (by omega) hS, obind_some, decide_eq_true (decide_eq_decide.2 h3)]
      rfl
    · rw [decide_eq_true c']; rfl
  · rw [decide_eq_true c]; rfl
end Go.Proofs.Ytdpmojhejidhiaa.K
