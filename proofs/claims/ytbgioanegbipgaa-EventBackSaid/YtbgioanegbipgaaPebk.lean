/- What was put is taken, what was taken was put: events. Plain. -/
import Derived.Test.YtbgioanegbipgaaPetk
namespace Go.Proofs.Ytbgioanegbipgaa.K
open Go.RowKit Go.Lib
set_option linter.unusedVariables false
set_option linter.unusedSimpArgs false
theorem hasT_app (a b : List GType) (n : List UInt8) : hasT (a ++ b) n = (hasT a n || hasT b n) := by unfold hasT; rw [List.any_append]
theorem schL_names : ∀ (r pre : List GType), schL pre r = 0 → ∀ i (h : i < r.length), hasT (pre ++ r.take i) r[i].Name = false
  | [], _, _, i, h => by simp at h
  | t :: r, pre, hs, i, h => by
    rw [schL] at hs
    by_cases h0 : typC t ≠ 0
    · rw [if_pos h0] at hs; exact absurd hs h0
    rw [if_neg h0] at hs
    cases hT : hasT pre t.Name with
    | true => rw [if_pos hT] at hs; cases hs
    | false =>
      rw [if_neg (by simp [hT])] at hs
      cases i with
      | zero => simpa using hT
      | succ i =>
        have := schL_names r (pre ++ [t]) hs i (by simpa using h)
        simpa using this
theorem sch_names {p : List GType} (h : schC p = 0) {i : Nat} (hi : i < p.length) : hasT (p.take i) p[i].Name = false := by
  unfold schC at h
  split at h
  · cases h
  · simpa using schL_names p [] h i hi
theorem plc_pre (t : GType) (r : List GType) : ∀ (pre : List GType) (k : Nat), hasT pre t.Name = false → plc (pre ++ t :: r) t.Name k = ((k + pre.length : Nat) : Int) ∧ fnd (pre ++ t :: r) t.Name = (t, true)
  | [], k, _ => by rw [List.nil_append, plc, fnd, if_pos rfl, if_pos rfl]; exact ⟨rfl, rfl⟩
  | x :: pre, k, h => by
    unfold hasT at h
    rw [List.any_cons, Bool.or_eq_false_iff] at h
    have hx : x.Name ≠ t.Name := by simpa using h.1
    obtain ⟨h1, h2⟩ := plc_pre t r pre (k + 1) h.2
    rw [List.cons_append, plc, fnd, if_neg hx, if_neg hx, h1, h2, List.length_cons]
    exact ⟨by congr 1; omega, rfl⟩
theorem plc_at {p : List GType} (h : schC p = 0) {i : Nat} (hi : i < p.length) : plc p p[i].Name 0 = (i : Int) ∧ fnd p p[i].Name = (p[i], true) := by
  obtain ⟨h1, h2⟩ := plc_pre p[i] (p.drop (i + 1)) (p.take i) 0 (sch_names h hi)
  rw [← split_at hi] at h1 h2
  refine ⟨?_, h2⟩
  rw [h1, List.length_take, Nat.min_eq_left (by omega), Nat.zero_add]
/-! ### taken, so put -/
theorem ztk_good {l : List UInt8} {a : Int} (h : (ztk l a).2.2 = 0) : ∃ m k : Nat, a = m ∧ m + k ≤ l.length ∧ (ztk l a).2.1 = m + k ∧ (l.drop m).take k = zb (ztk l a).1 := by
  by_cases ha : a < 0 ∨ (l.length : Int) < a
  · unfold ztk at h; rw [if_pos ha] at h; simp at h
  · obtain ⟨m, rfl⟩ : ∃ m : Nat, a = m := ⟨a.toNat, by omega⟩
    have e := ztk_drop0 (l := l) (a := m) (by omega)
    rw [e] at h ⊢
    unfold zgo at h ⊢
    simp only at h ⊢
    obtain ⟨q1, q2⟩ := tk_bytes (l := l.drop m) (u := (tk (l.drop m) 10 0 0).1) (n := (tk (l.drop m) 10 0 0).2.1) (Prod.ext rfl (Prod.ext rfl h))
    rw [List.length_drop] at q1
    exact ⟨m, (tk (l.drop m) 10 0 0).2.1, rfl, by omega, by rw [if_pos h], q2⟩
theorem tk4_bytes {l : List UInt8} {n0 n1 n2 n3 b : Nat} (h : tk4 l 0 = .inr (n0, n1, n2, n3, b)) : b ≤ l.length ∧ l.take b = zb n0 ++ zb n1 ++ zb n2 ++ zb n3 := by
  unfold tk4 at h
  by_cases c0 : (ztk l 0).2.2 ≠ 0
  · rw [if_pos c0] at h; cases h
  rw [if_neg c0] at h
  obtain ⟨m0, k0, a0, d0, e0, f0⟩ := ztk_good (by omega : (ztk l 0).2.2 = 0)
  obtain rfl : m0 = 0 := by omega
  generalize (ztk l 0).1 = u0 at h f0
  generalize (ztk l 0).2.1 = p1 at h e0
  by_cases c1 : (ztk l (p1 : Int)).2.2 ≠ 0
  · rw [if_pos c1] at h; cases h
  rw [if_neg c1] at h
  obtain ⟨m1, k1, a1, d1, e1, f1⟩ := ztk_good (by omega : (ztk l (p1 : Int)).2.2 = 0)
  generalize (ztk l (p1 : Int)).1 = u1 at h f1
  generalize (ztk l (p1 : Int)).2.1 = p2 at h e1
  by_cases c2 : (ztk l (p2 : Int)).2.2 ≠ 0
  · rw [if_pos c2] at h; cases h
  rw [if_neg c2] at h
  obtain ⟨m2, k2, a2, d2, e2, f2⟩ := ztk_good (by omega : (ztk l (p2 : Int)).2.2 = 0)
  generalize (ztk l (p2 : Int)).1 = u2 at h f2
  generalize (ztk l (p2 : Int)).2.1 = p3 at h e2
  by_cases c3 : (ztk l (p3 : Int)).2.2 ≠ 0
  · rw [if_pos c3] at h; cases h
  rw [if_neg c3] at h
  obtain ⟨m3, k3, a3, d3, e3, f3⟩ := ztk_good (by omega : (ztk l (p3 : Int)).2.2 = 0)
  generalize (ztk l (p3 : Int)).1 = u3 at h f3
  generalize (ztk l (p3 : Int)).2.1 = p4 at h e3
  cases h
  refine ⟨by omega, ?_⟩
  obtain rfl : m1 = k0 := by omega
  obtain rfl : m2 = m1 + k1 := by omega
  obtain rfl : m3 = m1 + k1 + k2 := by omega
  rw [e3, List.take_add, f3, List.take_add, f2, List.take_add, f1]
  rw [List.drop_zero] at f0
  rw [f0]
theorem valsT_bytes {l : List UInt8} (hl : l.length ≤ 1000) : ∀ (k : Nat) (a : Nat) (vs vs' : List GValue) (b : Int), a ≤ l.length → valsT l k (a : Int) vs = .inr (vs', b) → ∃ c : Nat, b = c ∧ a ≤ c ∧ c ≤ l.length ∧ valsB vs' = valsB vs ++ (l.drop a).take (c - a)
  | 0, a, vs, vs', b, ha, h => by
    rw [valsT] at h; cases h
    exact ⟨a, rfl, Nat.le_refl _, ha, by simp⟩
  | k + 1, a, vs, vs', b, ha, h => by
    rw [valsT] at h
    by_cases h0 : (vtk l (a : Int)).2.2 ≠ 0
    · rw [if_pos h0] at h; cases h
    rw [if_neg h0] at h
    obtain ⟨_, _, m, j, e1, e2, e3, e4⟩ := vtk_good hl (by omega : (vtk l (a : Int)).2.2 = 0)
    obtain rfl : m = a := by omega
    rw [e3] at h
    obtain ⟨c, q1, q2, q3, q4⟩ := valsT_bytes hl k _ _ vs' b e2 h
    refine ⟨c, q1, by omega, q3, ?_⟩
    rw [q4, show c - m = j + (c - (m + j)) by omega, List.take_add, List.drop_drop, ← e4]
    unfold valsB
    rw [List.flatMap_append]
    simp only [List.flatMap_cons, List.flatMap_nil, List.append_nil, List.append_assoc]
theorem num40_nn {n : Nat} (h : 0 ≤ num40 n) : (num40 n).toNat = n := by
  unfold num40 at h ⊢
  by_cases c : 1099511627776 < n
  · rw [if_pos c] at h; omega
  · rw [if_neg c]; omega
theorem num15_nn {n : Nat} (h : 0 ≤ num15 n) : (num15 n).toNat = n := by
  unfold num15 at h ⊢
  by_cases c : 15 < n
  · rw [if_pos c] at h; omega
  · rw [if_neg c]; omega
theorem ev_take_put {p : List GType} {l : List UInt8} {e : GEvent} {n : Int} (hp : scB p) (hl : l.length ≤ 1000) (h : etk p l 0 = (e, n, 0)) : evGood p e ∧ evO e ∧ ∃ m : Nat, n = m ∧ m ≤ l.length ∧ evB' p e = l.take m := by
  unfold etk at h
  by_cases c0 : schC p ≠ 0 ∨ (0 : Int) < 0 ∨ (l.length : Int) < 0
  · rw [if_pos c0] at h; simp at h
  rw [if_neg c0] at h
  have hs : schC p = 0 := by omega
  cases ht : tk4 l 0 with
  | inl er =>
    rw [ht] at h
    have hn := numbers_ok (l := l) (by omega) 0
    rw [ht] at hn
    obtain ⟨_, _, hn⟩ := hn
    simp only [Prod.mk.injEq] at h
    omega
  | inr q =>
    obtain ⟨n0, n1, n2, n3, b⟩ := q
    rw [ht] at h
    simp only at h
    by_cases h4 : p.length ≤ n3
    · rw [List.getElem?_eq_none h4] at h; simp at h
    have h4 : n3 < p.length := by omega
    rw [List.getElem?_eq_getElem h4] at h
    simp only at h
    obtain ⟨b1, b2⟩ := tk4_bytes ht
    cases hv : valsT l p[n3].Fields.length (b : Int) [] with
    | inl er =>
      rw [hv] at h
      simp only [Prod.mk.injEq] at h
      exfalso
      obtain ⟨_, _, rfl⟩ := h
      exact valsT_err _ _ _ hv
    | inr q =>
      obtain ⟨vs, c⟩ := q
      rw [hv] at h
      simp only at h
      obtain ⟨g1, g2⟩ := valsT_good hl _ _ _ _ _ hv (by simp)
      obtain ⟨cc, k1, k2, k3, k4⟩ := valsT_bytes hl _ _ _ _ _ b1 hv
      by_cases c1 : evC p (GEvent.mk (num40 n0) (num15 n1) (num40 n2) p[n3].Name vs) ≠ 0
      · rw [if_pos c1] at h
        simp only [Prod.mk.injEq] at h
        exact absurd h.2.2 c1
      rw [if_neg c1] at h
      simp only [Prod.mk.injEq, and_true] at h
      obtain ⟨h1, h2⟩ := h
      have gd := evC_zero (by omega : evC p (GEvent.mk (num40 n0) (num15 n1) (num40 n2) p[n3].Name vs) = 0)
      have hF := (hp.T _ (List.getElem_mem h4)).F
      have ho := tk_evO (n0 := n0) (n1 := n1) (n2 := n2) (t := p[n3].Name) (vs := vs) (by rw [g1]; simpa using hF) fun v hv => (g2 v hv).1
      subst h1
      refine ⟨gd, ho, cc, by omega, k3, ?_⟩
      have a1 := gd.M.T.1; have a2 := gd.M.S.1; have a3 := gd.M.Q.1
      simp only at a1 a2 a3
      unfold evB' headB
      simp only
      rw [num40_nn a1, num15_nn a2, num40_nn a3, (plc_at hs h4).1, Int.toNat_natCast, ← b2, k4]
      have : cc = b + (cc - b) := by omega
      conv => rhs; rw [this, List.take_add]
      simp [valsB]
/-! ### put, so taken -/
theorem ztk_put {pre r : List UInt8} {u : Nat} (hu : u < 18446744073709551616) : ztk (pre ++ (zb u ++ r)) (pre.length : Int) = (u, pre.length + zn u, 0) := by
  rw [ztk_at rfl, tk_put u hu]
  unfold zgo
  simp
theorem tk4_put {n0 n1 n2 n3 : Nat} (h0 : n0 < 18446744073709551616) (h1 : n1 < 18446744073709551616) (h2 : n2 < 18446744073709551616) (h3 : n3 < 18446744073709551616) (r : List UInt8) :
    tk4 (zb n0 ++ zb n1 ++ zb n2 ++ zb n3 ++ r) 0 = .inr (n0, n1, n2, n3, (zb n0 ++ zb n1 ++ zb n2 ++ zb n3).length) := by
  have e0 := ztk_put (pre := []) (r := zb n1 ++ (zb n2 ++ (zb n3 ++ r))) h0
  have e1 := ztk_put (pre := zb n0) (r := zb n2 ++ (zb n3 ++ r)) h1
  have e2 := ztk_put (pre := zb n0 ++ zb n1) (r := zb n3 ++ r) h2
  have e3 := ztk_put (pre := zb n0 ++ zb n1 ++ zb n2) (r := r) h3
  simp only [List.nil_append, List.length_nil, List.append_assoc, List.length_append, zb_length, Nat.zero_add, Int.natCast_zero] at e0 e1 e2 e3
  simp only [List.append_assoc, List.length_append, zb_length]
  have e2' : ztk (zb n0 ++ (zb n1 ++ (zb n2 ++ (zb n3 ++ r)))) ((zn n0 + zn n1 : Nat) : Int) = (n2, zn n0 + zn n1 + zn n2, 0) := e2
  have e3' : ztk (zb n0 ++ (zb n1 ++ (zb n2 ++ (zb n3 ++ r)))) ((zn n0 + zn n1 + zn n2 : Nat) : Int) = (n3, zn n0 + zn n1 + zn n2 + zn n3, 0) := by rw [← Nat.add_assoc] at e3; exact e3
  unfold tk4
  simp only [e0, e1, e2', e3', ne_eq, not_true_eq_false, if_false]
  rw [show zn n0 + (zn n1 + (zn n2 + zn n3)) = zn n0 + zn n1 + zn n2 + zn n3 by omega]
theorem valsT_put : ∀ (vs : List GValue) (pre r : List UInt8) (ac : List GValue), (∀ v ∈ vs, okB v ∧ chkV v = 0) → valsT (pre ++ (valsB vs ++ r)) vs.length (pre.length : Int) ac = .inr (ac ++ vs, ((pre.length + (valsB vs).length : Nat) : Int))
  | [], pre, r, ac, _ => by simp [valsT, valsB]
  | v :: vs, pre, r, ac, h => by
    have hv := h v (by simp)
    have e : pre ++ (valsB (v :: vs) ++ r) = (pre ++ (v.Kind :: bytesV v)) ++ (valsB vs ++ r) := by
      unfold valsB; rw [List.flatMap_cons]; simp only [List.append_assoc]
    have e1 := vtk_drop (l := pre ++ (valsB (v :: vs) ++ r)) (a := pre.length) (by simp)
    have e2 : (pre ++ (valsB (v :: vs) ++ r)).drop pre.length = (v.Kind :: bytesV v) ++ (valsB vs ++ r) := by
      rw [List.drop_left' rfl]; unfold valsB; rw [List.flatMap_cons, List.append_assoc]
    rw [e2, put_take hv.1 hv.2] at e1
    simp only [if_true] at e1
    have ih := valsT_put vs (pre ++ (v.Kind :: bytesV v)) r (ac ++ [v]) fun w hw => h w (by simp [hw])
    rw [List.length_cons, valsT, e1]
    simp only [ne_eq, not_true_eq_false, if_false]
    rw [← e, List.length_append] at ih
    rw [show ((pre.length : Nat) : Int) + (((v.Kind :: bytesV v).length : Nat) : Int) = ((pre.length + (v.Kind :: bytesV v).length : Nat) : Int) by omega, ih]
    have e3 : (valsB (v :: vs)).length = (v.Kind :: bytesV v).length + (valsB vs).length := by unfold valsB; rw [List.flatMap_cons, List.length_append]
    rw [e3, List.append_assoc, Nat.add_assoc]; rfl
theorem ev_put_take {p : List GType} {e : GEvent} (r : List UInt8) (hp : scB p) (g : evGood p e) (he : evO e) : etk p (evB' p e ++ r) 0 = (e, (((evB' p e).length : Nat) : Int), 0) := by
  obtain ⟨k, k1, k2, t, k3, k4, k5⟩ := plc_in e.Type_ p 0 g.H
  have hL := hp.L
  have m1 := g.M.T; have m2 := g.M.S; have m3 := g.M.Q
  have hv := valsT_put e.Vals (headB p e) r [] fun v hv => ⟨he.V v hv, g.V v hv⟩
  have ht := tk4_put (n0 := e.Time.toNat) (n1 := e.Source.toNat) (n2 := e.Seq.toNat) (n3 := (plc p e.Type_ 0).toNat) (by omega) (by omega) (by omega) (by omega) (valsB e.Vals ++ r)
  have hFl := g.F
  rw [k5] at hFl
  unfold etk evB'
  rw [if_neg (by rw [g.C]; omega), List.append_assoc]
  unfold headB at hv ⊢
  rw [ht]
  simp only
  rw [show (plc p e.Type_ 0).toNat = k by omega] at hv ⊢
  rw [k3]
  simp only
  rw [← hFl, hv]
  simp only [List.nil_append]
  have ee : GEvent.mk (num40 e.Time.toNat) (num15 e.Source.toNat) (num40 e.Seq.toNat) t.Name e.Vals = e := by
    have q1 : num40 e.Time.toNat = e.Time := by unfold num40; rw [if_neg (by omega)]; omega
    have q2 : num15 e.Source.toNat = e.Source := by unfold num15; rw [if_neg (by omega)]; omega
    have q3 : num40 e.Seq.toNat = e.Seq := by unfold num40; rw [if_neg (by omega)]; omega
    rw [q1, q2, q3, k4]
  rw [ee, g.zero, if_neg (by simp)]
  simp only [List.length_append]
theorem evB_inj {p : List GType} {a b : GEvent} (hp : scB p) (ga : evGood p a) (oa : evO a) (gb : evGood p b) (ob : evO b) (h : evB' p a = evB' p b) : a = b := by
  have h1 := ev_put_take [] hp ga oa
  have h2 := ev_put_take [] hp gb ob
  rw [h, h2] at h1
  exact (congrArg (·.1) h1).symm
theorem bytesV_c {v : GValue} (h : okB v) (c : chkV v = 0) : (bytesV v).length ≤ 40 := by
  have h1 := zn_le10 (zfold v.N) (zfold_lt _ h.N.1 h.N.2)
  have hT := h.T
  have h2 := zn_le10 v.Text.length (by omega)
  unfold bytesV
  split
  · rw [zb_length]; omega
  · split
    · simp
    · split
      · rw [beB_len]; omega
      · rename_i k1 k2 k3
        rcases chk_range v with q | q | q | q | q
        · exact absurd q k1
        · exact absurd q k2
        · exact absurd q k3
        · have := (chk4 q c).1
          rw [List.length_append, zb_length]; omega
        · rw [c] at q; cases q
theorem valsB_c : ∀ {l : List GValue}, (∀ v ∈ l, okB v ∧ chkV v = 0) → (valsB l).length ≤ 41 * l.length
  | [], _ => by simp [valsB]
  | v :: l, h => by
    have h1 := bytesV_c (h v (by simp)).1 (h v (by simp)).2
    have h2 := valsB_c (l := l) fun v hv => h v (by simp [hv])
    unfold valsB at h2 ⊢
    rw [List.flatMap_cons, List.length_append, List.length_cons, List.length_cons]
    omega
theorem evB_len {p : List GType} {e : GEvent} (hp : scB p) (g : evGood p e) (he : evO e) : (evB' p e).length ≤ 600 := by
  have h1 := valsB_c (l := e.Vals) fun v hv => ⟨he.V v hv, g.V v hv⟩
  have hL := he.L
  have m1 := g.M.T; have m2 := g.M.S; have m3 := g.M.Q
  obtain ⟨k, k1, k2, _⟩ := plc_in e.Type_ p 0 g.H
  have hpl := hp.L
  have a1 := zb_le (u := e.Time.toNat) (by omega)
  have a2 := zb_le (u := e.Source.toNat) (by omega)
  have a3 := zb_le (u := e.Seq.toNat) (by omega)
  have a4 := zb_le (u := (plc p e.Type_ 0).toNat) (by omega)
  unfold evB' headB
  simp only [List.length_append]
  omega
end Go.Proofs.Ytbgioanegbipgaa.K
