/- ShapeTrees by models. -/
import Derived.Test.YtdpmojhejidhiaaPsck
namespace Go.Proofs.Ytdpmojhejidhiaa.K
open Go.RowKit Go.Lib
set_option linter.unusedVariables false
set_option linter.unusedSimpArgs false
theorem join_pre {sep : Bts} : ∀ (ts : List Bts) (acc : Bts), acc <:+: joinL sep acc ts
  | [], acc => List.infix_refl _
  | x :: ts, acc => (List.prefix_append acc (sep ++ x)).isInfix.trans (join_pre ts _)
theorem join_mem {sep : Bts} : ∀ (ts : List Bts) (acc x : Bts), x ∈ ts → x <:+: joinL sep acc ts
  | y :: ts, acc, x, h => by
    rcases List.mem_cons.1 h with rfl | h
    · exact (List.IsInfix.trans ⟨acc ++ sep, [], by simp⟩ (join_pre (sep := sep) ts (acc ++ (sep ++ x))))
    · exact join_mem ts _ x h
theorem par_in (b : Bool) (s : Bts) : s <:+: par b s := by
  unfold par
  cases b with
  | true => exact ⟨[40], [41], by simp⟩
  | false => exact List.infix_refl _
theorem fin_in (a : UInt8) (n : GNode) (s : Bts) : s <:+: finT a n s := (List.prefix_append s _).isInfix.trans (par_in _ _)
theorem tr_mem {a : UInt8} {n : GNode} (h : leaB n = false) {ts : List Bts} {x : Bts} (hx : x ∈ ts) : x <:+: trT a n ts := by
  unfold trT
  rw [if_neg (by simp [h])]
  cases ts with
  | nil => cases hx
  | cons y ys =>
    rcases List.mem_cons.1 hx with rfl | hx
    · exact (join_pre _ _).trans (fin_in _ _ _)
    · exact (join_mem _ _ _ hx).trans (fin_in _ _ _)
theorem tr_zero (a : UInt8) (n : GNode) (ts : List Bts) : trT 0 n ts <:+: trT a n ts := by
  unfold trT
  by_cases h : leaB n = true
  · rw [if_pos h, if_pos h]; exact List.infix_refl _
  · rw [if_neg h, if_neg h]
    cases ts with
    | nil => exact List.infix_refl _
    | cons y ys =>
      show finT 0 n (joinL (sepS n) y ys) <:+: finT a n (joinL (sepS n) y ys)
      unfold finT
      rw [show (decide ((0 : UInt8).toNat = 3) || decide ((0 : UInt8).toNat = 1) && decide (kS n = 2)) = false from rfl]
      exact par_in _ _
theorem std_zero {n : GNode} {a : UInt8} (h : stdB n a = true) : stdB n 0 = true := by
  unfold stdB at *
  have h1 := (Bool.and_eq_true _ _).mp h
  have hk := of_decide_eq_true h1.1
  rw [h1.1, Bool.true_and]
  split
  · exact decide_eq_true (by show kS n ≠ 0; omega)
  · simp
theorem ok_zero {n : GNode} {k : SF} {d : Nat} {a : UInt8} (h : (SF.cons n k .nil).ok d a) : (SF.cons n k .nil).ok d 0 := by
  cases d with
  | zero => exact h.elim
  | succ d => exact ⟨std_zero h.1, h.2.1, h.2.2.1, h.2.2.2.1, h.2.2.2.2.1, trivial⟩
theorem ok_one {n : GNode} {k s : SF} {d : Nat} {a : UInt8} (h : (SF.cons n k s).ok d a) : (SF.cons n k .nil).ok d a := by
  cases d with
  | zero => exact h.elim
  | succ d => exact ⟨h.1, h.2.1, h.2.2.1, h.2.2.2.1, h.2.2.2.2.1, trivial⟩
theorem sok_up : ∀ {t : SF} {d e : Nat} {a : UInt8}, d ≤ e → t.ok d a → t.ok e a
  | .nil, d, e, a, h, k => trivial
  | .cons n k s, 0, e, a, h, kk => kk.elim
  | .cons n k s, d + 1, 0, a, h, kk => by omega
  | .cons n k s, d + 1, e + 1, a, h, kk => ⟨kk.1, kk.2.1, kk.2.2.1, kk.2.2.2.1, sok_up (by omega) kk.2.2.2.2.1, sok_up h kk.2.2.2.2.2⟩
theorem ssub_at : ∀ {t : SF} {d i : Nat} {a : UInt8}, t.ok d a → i < t.flat.length → ∃ n k r d' a', t.flat.drop i = (SF.cons n k .nil).flat ++ r ∧ (SF.cons n k .nil).ok d' a' ∧ d' ≤ d ∧ ∃ x ∈ t.txs a, trT 0 n (k.txs n.Kind) <:+: x
  | .nil, d, i, a, h, hi => by simp [SF.flat] at hi
  | .cons n k s, 0, i, a, h, hi => h.elim
  | .cons n k s, d + 1, 0, a, h, hi => ⟨n, k, s.flat, d + 1, a, by simp [SF.flat], ok_one h, Nat.le_refl _, trT a n (k.txs n.Kind), by simp [SF.txs], tr_zero _ _ _⟩
  | .cons n k s, d + 1, i + 1, a, h, hi => by
    have hi' : i < k.flat.length + s.flat.length := by simpa [SF.flat] using hi
    by_cases c : i < k.flat.length
    · obtain ⟨m, kk, r, d', a', e, o, q, x, hx, hin⟩ := ssub_at (t := k) (i := i) h.2.2.2.2.1 c
      refine ⟨m, kk, r ++ s.flat, d', a', ?_, o, by omega, trT a n (k.txs n.Kind), by simp [SF.txs], hin.trans (tr_mem ?_ hx)⟩
      · show (k.flat ++ s.flat).drop i = _
        rw [List.drop_append_of_le_length (by omega), e, List.append_assoc]
      · cases hl : leaB n with
        | false => rfl
        | true =>
          have := h.2.2.2.1
          rw [kd_leaf hl] at this
          obtain rfl := len_nil this.symm
          simp [SF.flat] at c
    · obtain ⟨m, kk, r, d', a', e, o, q, x, hx, hin⟩ := ssub_at (t := s) (i := i - k.flat.length) h.2.2.2.2.2 (by omega)
      refine ⟨m, kk, r, d', a', ?_, o, q, x, by simp [SF.txs, hx], hin⟩
      show (k.flat ++ s.flat).drop i = _
      rw [List.drop_append, List.drop_of_length_le (by omega), List.nil_append, e]
theorem infix_len {s t : Bts} (h : s <:+: t) : s.length ≤ t.length := by
  obtain ⟨a, b, e⟩ := h
  rw [← e]; simp; omega
theorem tr_ne : ∀ {t : SF} {d : Nat} {a : UInt8}, t.ok d a → ∀ x ∈ t.txs a, 1 ≤ x.length
  | .nil, d, a, h, x, hx => by cases hx
  | .cons n k s, 0, a, h, x, hx => h.elim
  | .cons n k s, d + 1, a, h, x, hx => by
    rcases List.mem_cons.1 hx with rfl | hx
    · cases hl : leaB n with
      | true =>
        unfold trT
        rw [if_pos hl]
        unfold lefS
        simp; omega
      | false =>
        have h1 := kd_more hl h.1 h.2.1
        cases k with
        | nil => have := h.2.2.2.1; simp [SF.len] at this; omega
        | cons m kk ss =>
          have ih := tr_ne h.2.2.2.2.1 (trT n.Kind m (kk.txs m.Kind)) (by simp [SF.txs])
          have := infix_len (tr_mem (a := a) hl (ts := (SF.cons m kk ss).txs n.Kind) (x := trT n.Kind m (kk.txs m.Kind)) (by simp [SF.txs]))
          omega
    · exact tr_ne h.2.2.2.2.2 x hx
theorem swithin_ok {s t : Bts} (hs : s.length ≤ 1000000) (h : t <:+: s) : m_telltalelaw13_within s t = some true := by
  obtain ⟨a, b, e⟩ := h
  have hl : s.length = a.length + t.length + b.length := by rw [← e]; simp; omega
  have key : ∀ (fu i : Nat), i ≤ a.length → a.length - i < fu → m_telltalelaw13_within_l0 s t fu (i : Int) = some true := by
    intro fu
    induction fu with
    | zero => intro i h1 h2; omega
    | succ fu ih =>
      intro i h1 h2
      unfold m_telltalelaw13_within_l0
      rw [show IntKind.i64.wrap ((i : Int) + ((List.length t : Nat) : Int)) = ((i + t.length : Nat) : Int) by rw [w64 (by omega) (by omega)]; omega, decide_eq_true (by omega), cond_true, cut_ok (by omega) (by omega), obind_some, show i + t.length - i = t.length by omega]
      by_cases q : (s.drop i).take t.length = t
      · rw [decide_eq_true q]; rfl
      · rw [decide_eq_false q, cond_false, inc_ok (by omega)]
        have hne : i ≠ a.length := fun c => q (by rw [c, ← e, List.append_assoc]; simp)
        exact ih (i + 1) (by omega) (by omega)
  exact key 1152921504606846976 0 (Nat.zero_le _) (by omega)
theorem sS_cut {l t r : List GNode} {i : Nat} (h : sS l) (e : l.drop i = t ++ r) : sS t := fun n hn => h n (List.mem_of_mem_drop (i := i) (by rw [e]; simp [hn]))
theorem main_ShapeTrees (p : GPattern) (hx : wf_GPattern p) : m_telltalelaw13_ShapeTrees p = some true := by
  unfold m_telltalelaw13_ShapeTrees
  obtain ⟨r0, e0, q0⟩ := sover_ok (p := p) hx.Body.2
  rw [e0, obind_some, sawake_ok]
  rcases q0 with rfl | ⟨rfl, hl, hby, hS⟩
  · rfl
  rw [d_nlt (by decide), cond_false, sown_ok (by omega) hS, obind_some, scheck_ok hl hS, obind_some]
  by_cases c : chkP p = 0
  · obtain ⟨n, k, eb, ok, hl40, ht⟩ := chkP_tree c
    have hSt : sS (SF.cons n k .nil).flat := by rw [← eb]; exact hS
    have hpos : 1 ≤ (SF.cons n k .nil).flat.length := by simp [SF.flat]
    have htl := tl_len ht hby
    have htr := tr_len ok hSt
    rw [← eb] at htr
    have hW := sprint_ok ok eb hl40 ht hS hby
    have hAB := sprint_ok (p := GPattern.mk [GNode.mk 4 0 0 0 [97] [98] []] p.Within p.By p.Mode) (n := GNode.mk 4 0 0 0 [97] [98] []) (k := .nil) ⟨by decide, by decide, by decide, by decide, trivial, trivial⟩ rfl (show 1 ≤ 40 by decide) ht (by intro m hm; rw [List.mem_singleton] at hm; subst hm; exact ⟨by decide, by decide, by decide, fun _ h => by cases h⟩) hby
    have hab : trT 0 (GNode.mk 4 0 0 0 [97] [98] []) (SF.nil.txs 4) = [97, 58, 98] := by decide
    have hab' : m_shape_Print (GPattern.mk [GNode.mk 4 0 0 0 [97] [98] []] p.Within p.By p.Mode) = some ([97, 58, 98] ++ tlS p) := by rw [hAB, show trT 0 (GNode.mk 4 0 0 0 [97] [98] []) (SF.nil.txs (GNode.mk 4 0 0 0 [97] [98] []).Kind) = [97, 58, 98] from hab]; rfl
    have hsz : m_shape_Size p.Body 0 = some (p.Body.length : Int) := by
      have := ssize_at (l := p.Body) (p := 0) (r := []) (by omega) ok (by rw [eb]; simp)
      rw [← eb] at this; exact this
    rw [decide_eq_false (by simp [c]), cond_false, hW, obind_some, hsz, obind_some, decide_eq_false (by simp), cond_false, hab', obind_some, obind_some]
    generalize hT : trT 0 n (k.txs n.Kind) = T at *
    have hv : IntKind.i64.wrap (IntKind.i64.wrap (((List.length (T ++ tlS p) : Nat) : Int) - ((List.length (([97, 58, 98] : List UInt8) ++ tlS p) : Nat) : Int)) + 3) = (T.length : Int) := by
      rw [List.length_append, List.length_append]
      simp only [List.length_cons, List.length_nil]
      rw [w64 (n := ((T.length + (tlS p).length : Nat) : Int) - _) (by omega) (by omega), w64 (by omega) (by omega)]
      omega
    rw [hv, d_nlt (by omega), cond_false, d_nlt (by rw [List.length_append]; omega), cond_false]
    refine loop1_0 (L := fun fu i => m_telltalelaw13_ShapeTrees_l9 p (T ++ tlS p) (T.length : Int) fu i) (n := p.Body.length) (P := fun i o => o = some true) (by omega) (fun fu => ?_) (fun fu i hi ih => ?_)
    · show m_telltalelaw13_ShapeTrees_l9 p (T ++ tlS p) (T.length : Int) (fu + 1) _ = _
      unfold m_telltalelaw13_ShapeTrees_l9
      rw [d_nlt (by omega), cond_false, sawake_ok]; rfl
    · show m_telltalelaw13_ShapeTrees_l9 p (T ++ tlS p) (T.length : Int) (fu + 1) _ = _
      unfold m_telltalelaw13_ShapeTrees_l9
      obtain ⟨m, kk, r, d', a', e, o, hd, x, hxm, hin⟩ := ssub_at ok (i := i) (by rw [← eb]; exact hi)
      rw [← eb] at e
      have hx1 : x = T := by
        simp only [SF.txs, List.mem_singleton] at hxm
        rw [hxm, hT]
      subst hx1
      have hsub : i + (SF.cons m kk .nil).flat.length ≤ p.Body.length := by
        have := congrArg List.length e
        rw [List.length_drop, List.length_append] at this; omega
      have hpos' : 1 ≤ (SF.cons m kk .nil).flat.length := by simp [SF.flat]
      have oz := sok_up hd (ok_zero o)
      have hSs := sS_cut hS e
      have htr' := tr_len oz hSs
      have hne := tr_ne oz (trT 0 m (kk.txs m.Kind)) (by simp [SF.txs])
      have hP := sprint_ok (p := GPattern.mk (SF.cons m kk .nil).flat p.Within p.By p.Mode) oz rfl (by show (SF.cons m kk .nil).flat.length ≤ 40; omega) ht hSs hby
      have hcut : cut p.Body (i : Int) (((i + (SF.cons m kk .nil).flat.length : Nat)) : Int) = some (SF.cons m kk .nil).flat := by
        rw [cut_ok (by omega) hsub, e, show i + (SF.cons m kk .nil).flat.length - i = (SF.cons m kk .nil).flat.length by omega]
        simp
      rw [d_lt (by omega), cond_true, ssize_at (by omega) o e, obind_some, d_nlt (by omega), cond_false, w64 (by omega) (by omega), d_nlt (by omega), cond_false, show IntKind.i64.wrap ((i : Int) + (((SF.cons m kk .nil).flat.length : Nat) : Int)) = ((i + (SF.cons m kk .nil).flat.length : Nat) : Int) by rw [w64 (by omega) (by omega)]; omega, hcut, obind_some, hP, obind_some, obind_some]
      have e1 : tlS (GPattern.mk (SF.cons m kk .nil).flat p.Within p.By p.Mode) = tlS p := rfl
      rw [e1]
      generalize hU : trT 0 m (kk.txs m.Kind) = U at *
      have hv2 : IntKind.i64.wrap (((List.length (U ++ tlS p) : Nat) : Int) - IntKind.i64.wrap (((List.length (x ++ tlS p) : Nat) : Int) - (x.length : Int))) = (U.length : Int) := by
        rw [List.length_append, List.length_append]
        rw [w64 (n := ((x.length + (tlS p).length : Nat) : Int) - _) (by omega) (by omega), w64 (by omega) (by omega)]
        omega
      rw [hv2, decide_eq_false (by intro c; have := congrArg List.length c; simp at this; rw [this.1] at hne; simp at hne), cond_false, d_nlt (by omega), cond_false, d_nlt (by rw [List.length_append]; omega), cond_false]
      have c1 : cut (x ++ tlS p) 0 (x.length : Int) = some x := by
        have := cut_ok (l := x ++ tlS p) (a := 0) (b := x.length) (Nat.zero_le _) (by simp)
        simpa using this
      have c2 : cut (U ++ tlS p) 0 (U.length : Int) = some U := by
        have := cut_ok (l := U ++ tlS p) (a := 0) (b := U.length) (Nat.zero_le _) (by simp)
        simpa using this
      rw [c1, obind_some, c2, obind_some, swithin_ok (by omega) hin, obind_some, Bool.not_true, cond_false, inc_ok (by omega)]
      exact ih
  · rw [decide_eq_true c, cond_true, sprint_no hl hS c]; rfl
end Go.Proofs.Ytdpmojhejidhiaa.K
