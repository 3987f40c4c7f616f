/- What is ripe, the same, the least: plain. -/
import Derived.Test.YtelhmhmgaaebpaaZB2
import Derived.Test.YtelhmhmgaaebpaaZLM
set_option linter.unusedVariables false
set_option linter.unusedSimpArgs false
namespace Go.Proofs.Ytelhmhmgaaebpaa.K
open Go.RowKit Go.Lib
/-- How waits stand to one another. -/
def cw (x y : GWait) : Int := lexI (cmpI x.End y.End) (rk x.Bound y.Bound)
theorem cw_c : Cmp cw := (cmpI_c.comap GWait.End).lex (rk_c.comap GWait.Bound)
theorem or2_ok (a b : Int) : m_cmp_Or_int [a, b] = some (lexI a b) := by
  unfold m_cmp_Or_int
  show m_cmp_Or_int_l1 [a, b] (1152921504606846973 + 1 + 1 + 1) 0 = _
  have e1 : IntKind.i64.wrap (0 + 1) = 1 := w64 (by omega) (by omega)
  have e2 : IntKind.i64.wrap (1 + 1) = 2 := w64 (by omega) (by omega)
  unfold lexI
  unfold m_cmp_Or_int_l1
  rw [decide_eq_true (by simp), cond_true, show geti [a, b] 0 = some a from rfl, obind_some, e1]
  by_cases ha : a ≠ 0
  · rw [decide_eq_true ha, cond_true, if_pos ha]
  · rw [decide_eq_false ha, cond_false, if_neg ha]
    unfold m_cmp_Or_int_l1
    rw [decide_eq_true (by simp), cond_true, show geti [a, b] 1 = some b from rfl, obind_some, e2]
    by_cases hb : b ≠ 0
    · rw [decide_eq_true hb, cond_true]
    · rw [decide_eq_false hb, cond_false]
      unfold m_cmp_Or_int_l1
      rw [decide_eq_false (by simp), cond_false]
      congr 1; omega
theorem ripe1_ok (x y : GWait) (hx : x.Bound.length ≤ 400000000) : m_trail_Trail_Ripe_1 x y = some (cw x y) := by
  unfold m_trail_Trail_Ripe_1 cw
  rw [compI_ok, obind_some, rank_ok _ _ hx, obind_some, or2_ok, obind_some]
def Qw (x : GWait) : Prop := x.Bound.length ≤ 400000000
theorem cw_ord : Ord Qw (ltc cw) := by
  refine ⟨fun x y _ _ h => ?_, fun x y z _ _ _ h1 h2 => ?_⟩
  · have := cw_c.neg x y
    show ¬ cw y x < 0
    have h : cw x y < 0 := h
    omega
  · show ¬ cw z x < 0
    have h1 : ¬ cw y x < 0 := h1
    have h2 : ¬ cw z y < 0 := h2
    have e1 := cw_c.neg x y
    have e2 := cw_c.neg y z
    have e3 := cw_c.neg x z
    have := cw_c.tr x y z (by omega) (by omega)
    omega
theorem sortw_ok {l : List GWait} (hl : l.length ≤ 1000) (hq : ∀ x ∈ l, Qw x) : ∃ r, m_slices_SortStableFunc_Wait__trail_Trail_Ripe_1 l = some r ∧ r.Perm l ∧ Srt (ltc cw) r := by
  unfold m_slices_SortStableFunc_Wait__trail_Trail_Ripe_1
  obtain ⟨r, h1, h2, h3⟩ := m_trail_Trail_Ripe_1_sort.stb_ok (Q := Qw) (c := cw) (fun x y hx _ => ripe1_ok x y hx) cw_ord (l := l) (by omega) hq
  rw [h3, obind_some]
  exact ⟨r, rfl, h1, h2⟩
def lo (n : Int) (w : GWait) : Bool := decide (w.End < n)
theorem filter_snoc {α : Type} (p : α → Bool) (l : List α) (x : α) : (l ++ [x]).filter p = l.filter p ++ if p x then [x] else [] := by
  rw [List.filter_append]
  congr 1
  cases h : p x <;> simp [h]
theorem ripe_ok {s : Nat} {L : List GWait} (hs : s ≤ 1000) (hl : L.length ≤ 1000) (h : ∀ w ∈ L, wB s w) (c n : Int) : ∃ R, m_trail_Trail_Ripe ⟨c, L⟩ n = some (R, ⟨c, L.filter fun w => !lo n w⟩) ∧ R.Perm (L.filter (lo n)) ∧ Srt (ltc cw) R := by
  unfold m_trail_Trail_Ripe
  rw [copied_ok hs hl h, obind_some]
  have key := loopG_0 (σ := List GWait × List GWait) (L := fun fu y i => m_trail_Trail_Ripe_l1 ⟨c, L⟩ n L fu y.1 y.2 i) (n := L.length) (P := fun i y o => y.1 = (L.take i).filter (lo n) → y.2 = (L.take i).filter (fun w => !lo n w) → ∃ R, o = some (R, (⟨c, L.filter fun w => !lo n w⟩ : GTrail)) ∧ R.Perm (L.filter (lo n)) ∧ Srt (ltc cw) R) (by omega)
    (fun fu y e1 e2 => by
      obtain ⟨R, q1, q2, q3⟩ := sortw_ok (l := L.filter (lo n)) (Nat.le_trans (List.length_filter_le _ _) hl) (fun x hx => by have := (h x ((List.mem_filter.1 hx).1)).1; unfold Qw; omega)
      unfold m_trail_Trail_Ripe_l1
      rw [List.take_length] at e1 e2
      rw [d_nlt (by omega), cond_false, e1, e2, q1, obind_some]
      exact ⟨R, rfl, q2, q3⟩)
    (fun fu y i hi ih e1 e2 => by
      have f1 := List.length_filter_le (lo n) (L.take i)
      have f2 := List.length_filter_le (fun w => !lo n w) (L.take i)
      have f3 : (L.take i).length ≤ 1000 := by rw [List.length_take]; omega
      unfold m_trail_Trail_Ripe_l1
      rw [d_lt (by omega), cond_true, geti_lt hi, obind_some]
      by_cases hlo : L[i].End < n
      · have e : lo n L[i] = true := decide_eq_true hlo
        rw [d_lt hlo, cond_true, app_ok (by rw [e1]; simp; omega), obind_some, inc_ok (by omega)]
        refine ih (y.1 ++ [L[i]], y.2) ?_ ?_
        · rw [take_snoc hi, filter_snoc, if_pos e, e1]
        · rw [take_snoc hi, filter_snoc, if_neg (by rw [e]; simp), List.append_nil, e2]
      · have e : lo n L[i] = false := decide_eq_false hlo
        rw [d_nlt hlo, cond_false, app_ok (by rw [e2]; simp; omega), obind_some, inc_ok (by omega)]
        refine ih (y.1, y.2 ++ [L[i]]) ?_ ?_
        · rw [take_snoc hi, filter_snoc, if_neg (by rw [e]; simp), List.append_nil, e1]
        · rw [take_snoc hi, filter_snoc, if_pos (by rw [e]; rfl), e2]) ([], [])
  exact key (by simp) (by simp)
theorem equ_ok {l : List Int} (hl : l.length ≤ 1000000) : m_slices_Equal_uint32 l l = some true := by
  unfold m_slices_Equal_uint32
  rw [decide_eq_false (by simp), cond_false]
  exact loop1_0 (L := fun fu i => m_slices_Equal_uint32_l2 l l fu i) (n := l.length) (P := fun i o => o = some true) (by omega)
    (fun fu => by unfold m_slices_Equal_uint32_l2; rw [d_nlt (by omega), cond_false])
    (fun fu i hi ih => by
      unfold m_slices_Equal_uint32_l2
      rw [d_lt (by omega), cond_true, geti_lt hi, obind_some, obind_some, decide_eq_false (by simp), cond_false, inc_ok (by omega)]
      exact ih)
theorem same_self {s : Nat} {L : List GWait} (hs : s ≤ 1000) (hl : L.length ≤ 1000) (h : ∀ w ∈ L, wB s w) (c : Int) : m_trail_Same ⟨c, L⟩ ⟨c, L⟩ = some true := by
  unfold m_trail_Same m_slices_EqualFunc_Waittrail_Wait_trail_Wait_trail_Wait__trail_Same_1
  rw [decide_eq_true (show (GTrail.mk c L).Cap = (GTrail.mk c L).Cap from rfl), cond_true, decide_eq_false (by simp), cond_false]
  show Option.bind (m_slices_EqualFunc_Waittrail_Wait_trail_Wait_trail_Wait__trail_Same_1_l2 L L 1152921504606846976 0) _ = _
  have key := loop1_0 (L := fun fu i => m_slices_EqualFunc_Waittrail_Wait_trail_Wait_trail_Wait__trail_Same_1_l2 L L fu i) (n := L.length) (P := fun i o => o = some true) (by omega)
    (fun fu => by unfold m_slices_EqualFunc_Waittrail_Wait_trail_Wait_trail_Wait__trail_Same_1_l2; rw [d_nlt (by omega), cond_false])
    (fun fu i hi ih => by
      have hw := h _ (List.getElem_mem hi)
      have e : m_trail_Same_1 L[i] L[i] = some true := by
        unfold m_trail_Same_1
        rw [decide_eq_true rfl, cond_true, equ_ok (by have := hw.2; omega), obind_some, cond_true, rank_ok _ _ (by have := hw.1; omega), obind_some, rk_self]; rfl
      unfold m_slices_EqualFunc_Waittrail_Wait_trail_Wait_trail_Wait__trail_Same_1_l2
      rw [d_lt (by omega), cond_true, geti_lt hi, obind_some, obind_some, e, obind_some, Bool.not_true, cond_false, inc_ok (by omega)]
      exact ih)
  rw [key, obind_some]
theorem least_ok {L : List GWait} {c n : Int} (hl : L.length ≤ 1000) (h : ∀ w ∈ L, n ≤ w.End) : ∃ m b, m_trail_Trail_Least ⟨c, L⟩ = some (m, b) ∧ b = decide (0 < L.length) ∧ (b = true → n ≤ m) := by
  unfold m_trail_Trail_Least
  have key := loopG_0 (σ := Int × Bool) (L := fun fu y i => m_trail_Trail_Least_l1 ⟨c, L⟩ fu y.1 y.2 i) (n := L.length) (P := fun i y o => y.2 = decide (0 < i) → (y.2 = true → n ≤ y.1) → ∃ m b, o = some (m, b) ∧ b = decide (0 < L.length) ∧ (b = true → n ≤ m)) (by omega)
    (fun fu y e1 e2 => by
      unfold m_trail_Trail_Least_l1
      simp only []
      rw [d_nlt (by omega), cond_false]
      exact ⟨y.1, y.2, rfl, e1, e2⟩)
    (fun fu y i hi ih e1 e2 => by
      have hw := h _ (List.getElem_mem hi)
      unfold m_trail_Trail_Least_l1
      simp only []
      rw [d_lt (by omega), cond_true, geti_lt hi, obind_some, inc_ok (by omega)]
      cases hb : y.2 with
      | false =>
        rw [Bool.not_false, cond_true]
        exact ih (L[i].End, true) (by simp) (fun _ => hw)
      | true =>
        rw [Bool.not_true, cond_false]
        by_cases hlt : L[i].End < y.1
        · rw [d_lt hlt, cond_true]; exact ih (L[i].End, true) (by simp) (fun _ => hw)
        · rw [d_nlt hlt, cond_false]; exact ih (y.1, true) (by simp) (fun _ => e2 hb)) (0, false)
  exact key (by simp) (fun h => by cases h)
/-- Of two lists of the same waits, no two alike, both in order, there is one. -/
theorem srt_uni : ∀ {a b : List GWait}, a.Perm b → a.Pairwise (fun x y => cw x y < 0) → b.Pairwise (fun x y => cw x y < 0) → a = b
  | [], b, hp, _, _ => (List.perm_nil.1 hp.symm).symm
  | x :: a, [], hp, _, _ => by have := List.perm_nil.1 hp; cases this
  | x :: a, y :: b, hp, ha, hb => by
    have ha' := List.pairwise_cons.1 ha
    have hb' := List.pairwise_cons.1 hb
    have hxy : x = y := by
      rcases List.mem_cons.1 (hp.mem_iff.1 (show x ∈ x :: a by simp)) with e | e
      · exact e
      · rcases List.mem_cons.1 (hp.mem_iff.2 (show y ∈ y :: b by simp)) with e' | e'
        · exact e'.symm
        · have h1 := hb'.1 x e
          have h2 := ha'.1 y e'
          have := cw_c.neg x y
          omega
    subst hxy
    rw [srt_uni ((List.perm_cons x).1 hp) ha'.2 hb'.2]
theorem srt_strict {R : List GWait} (hs : Srt (ltc cw) R) (hd : R.Pairwise fun x y => cw x y ≠ 0) : R.Pairwise (fun x y => cw x y < 0) := by
  refine (List.Pairwise.and hs hd).imp fun {x y} ⟨h1, h2⟩ => ?_
  have h1 : ¬ cw y x < 0 := h1
  have := cw_c.neg x y
  omega
theorem diff_perm {R L : List GWait} (hp : R.Perm L) (h : L.Pairwise fun x y => cw x y ≠ 0) : R.Pairwise fun x y => cw x y ≠ 0 :=
  hp.symm.pairwise h fun {x y} h => by have := cw_c.neg x y; omega
theorem ap_cw {L : List GWait} (h : (L.map (·.Bound)).Pairwise fun x y => rk x y ≠ 0) : L.Pairwise fun x y => cw x y ≠ 0 := by
  rw [List.pairwise_map] at h
  refine h.imp fun {x y} h => ?_
  unfold cw lexI
  split
  · assumption
  · exact h
end Go.Proofs.Ytelhmhmgaaebpaa.K

namespace Go.Proofs.Ytelhmhmgaaebpaa.K
open Go.RowKit Go.Lib

structure wf_GValue (x : GValue) : Prop where
  Kind : wfT x.Kind
  N : (inK .i64) x.N
  Bits : (inK .u64) x.Bits
  Text : wfS x.Text
theorem td_118 {ds : List D} (h : TD Try.prog 118 ds) : ∃ x : GValue, ds = enc_GValue x ∧ wf_GValue x := by
  have h0 := TD.of_struct Try.underlying118 h
  obtain ⟨p0, q0, e0, t0, h1⟩ := h0
  obtain ⟨x0, f0, w0⟩ := td_u8 Try.underlying5 t0
  obtain ⟨p1, q1, e1, t1, h2⟩ := h1
  obtain ⟨x1, f1, w1⟩ := td_int Try.underlying3 t1
  obtain ⟨p2, q2, e2, t2, h3⟩ := h2
  obtain ⟨x2, f2, w2⟩ := td_int Try.underlying115 t2
  obtain ⟨p3, q3, e3, t3, h4⟩ := h3
  obtain ⟨x3, f3, w3⟩ := td_str Try.underlying9 t3
  have h4 : q3 = [] := h4
  refine ⟨⟨x0, x1, x2, x3⟩, ?_, ⟨w0, w1, w2, w3⟩⟩
  rw [e0, f0, e1, f1, e2, f2, e3, f3, h4]; rfl
structure wf_GEvent (x : GEvent) : Prop where
  Time : (inK .i64) x.Time
  Source : (inK .i64) x.Source
  Seq : (inK .i64) x.Seq
  Type_ : wfS x.Type_
  Vals : (wfL wf_GValue) x.Vals
theorem td_91 {ds : List D} (h : TD Try.prog 91 ds) : ∃ x : GEvent, ds = enc_GEvent x ∧ wf_GEvent x := by
  have h0 := TD.of_struct Try.underlying91 h
  obtain ⟨p0, q0, e0, t0, h1⟩ := h0
  obtain ⟨x0, f0, w0⟩ := td_int Try.underlying3 t0
  obtain ⟨p1, q1, e1, t1, h2⟩ := h1
  obtain ⟨x1, f1, w1⟩ := td_int Try.underlying3 t1
  obtain ⟨p2, q2, e2, t2, h3⟩ := h2
  obtain ⟨x2, f2, w2⟩ := td_int Try.underlying3 t2
  obtain ⟨p3, q3, e3, t3, h4⟩ := h3
  obtain ⟨x3, f3, w3⟩ := td_str Try.underlying9 t3
  obtain ⟨p4, q4, e4, t4, h5⟩ := h4
  obtain ⟨x4, f4, w4⟩ := td_slice (enc := enc_GValue) (q := wf_GValue) Try.underlying89 (fun {r} h => td_118 h) t4
  have h5 : q4 = [] := h5
  refine ⟨⟨x0, x1, x2, x3, x4⟩, ?_, ⟨w0, w1, w2, w3, w4⟩⟩
  rw [e0, f0, e1, f1, e2, f2, e3, f3, e4, f4, h5]; rfl
structure wf_GPair (x : GPair) : Prop where
  Var : wfS x.Var
  E : wf_GEvent x.E
theorem td_93 {ds : List D} (h : TD Try.prog 93 ds) : ∃ x : GPair, ds = enc_GPair x ∧ wf_GPair x := by
  have h0 := TD.of_struct Try.underlying93 h
  obtain ⟨p0, q0, e0, t0, h1⟩ := h0
  obtain ⟨x0, f0, w0⟩ := td_str Try.underlying9 t0
  obtain ⟨p1, q1, e1, t1, h2⟩ := h1
  obtain ⟨x1, f1, w1⟩ := td_91 t1
  have h2 : q1 = [] := h2
  refine ⟨⟨x0, x1⟩, ?_, ⟨w0, w1⟩⟩
  rw [e0, f0, e1, f1, h2]; rfl
structure wf_GWait (x : GWait) : Prop where
  Bound : (wfL wf_GPair) x.Bound
  Sets : (wfL (inK .u32)) x.Sets
  End : (inK .i64) x.End
theorem td_46 {ds : List D} (h : TD Try.prog 46 ds) : ∃ x : GWait, ds = enc_GWait x ∧ wf_GWait x := by
  have h0 := TD.of_struct Try.underlying46 h
  obtain ⟨p0, q0, e0, t0, h1⟩ := h0
  obtain ⟨x0, f0, w0⟩ := td_slice (enc := enc_GPair) (q := wf_GPair) Try.underlying44 (fun {r} h => td_93 h) t0
  obtain ⟨p1, q1, e1, t1, h2⟩ := h1
  obtain ⟨x1, f1, w1⟩ := td_slice (enc := (encI .u32)) (q := (inK .u32)) Try.underlying22 (fun {r} h => td_int Try.underlying25 h) t1
  obtain ⟨p2, q2, e2, t2, h3⟩ := h2
  obtain ⟨x2, f2, w2⟩ := td_int Try.underlying3 t2
  have h3 : q2 = [] := h3
  refine ⟨⟨x0, x1, x2⟩, ?_, ⟨w0, w1, w2⟩⟩
  rw [e0, f0, e1, f1, e2, f2, h3]; rfl
structure wf_GArr2_Int_ (x : GArr2_Int_) : Prop where
  a0 : (inK .u32) x.a0
  a1 : (inK .u32) x.a1
theorem td_48 {ds : List D} (h : TD Try.prog 48 ds) : ∃ x : GArr2_Int_, ds = enc_GArr2_Int_ x ∧ wf_GArr2_Int_ x := by
  obtain ⟨l, e, hl, hq⟩ := TD.of_array (enc := (encI .u32)) (Q := (inK .u32)) Try.underlying48 (fun {r} h => td_int Try.underlying25 h) h
  match l, hl with
  | [a0, a1], _ => exact ⟨⟨a0, a1⟩, e, ⟨hq a0 (by simp), hq a1 (by simp)⟩⟩
structure wf_GArr2_Int (x : GArr2_Int) : Prop where
  a0 : (inK .i64) x.a0
  a1 : (inK .i64) x.a1
theorem td_29 {ds : List D} (h : TD Try.prog 29 ds) : ∃ x : GArr2_Int, ds = enc_GArr2_Int x ∧ wf_GArr2_Int x := by
  obtain ⟨l, e, hl, hq⟩ := TD.of_array (enc := (encI .i64)) (Q := (inK .i64)) Try.underlying29 (fun {r} h => td_int Try.underlying3 h) h
  match l, hl with
  | [a0, a1], _ => exact ⟨⟨a0, a1⟩, e, ⟨hq a0 (by simp), hq a1 (by simp)⟩⟩
end Go.Proofs.Ytelhmhmgaaebpaa.K

namespace Go.Proofs.Ytelhmhmgaaebpaa.K
open Go.RowKit Go.Lib
end Go.Proofs.Ytelhmhmgaaebpaa.K

namespace Go.Proofs.Ytelhmhmgaaebpaa.K
open Go.RowKit Go.Lib
end Go.Proofs.Ytelhmhmgaaebpaa.K

namespace Go.Proofs.Ytelhmhmgaaebpaa.K
open Go.RowKit Go.Lib
def prB (p : GPair) : Prop := p.Var.length ≤ 40 ∧ evB p.E
def bdB (l : List GPair) : Prop := l.length ≤ 20 ∧ ∀ p ∈ l, prB p
theorem wf_evM {e : GEvent} (h : wf_GEvent e) : evM e := ⟨h.Type_, h.Vals.1, fun v hv => (h.Vals.2 v hv).Text⟩
theorem long_ok {l : List GPair} (hw : ∀ p ∈ l, wf_GPair p) : ∃ r, m_w19_Long l = some r ∧ (r = 1 ∨ r = 0 ∧ bdB l) := by
  unfold m_w19_Long
  by_cases h : 20 < l.length
  · rw [d_lt (by omega)]; exact ⟨1, rfl, .inl rfl⟩
  · rw [d_nlt (by omega), cond_false]
    have := loop1_0 (L := fun fu i => m_w19_Long_l1 l fu i) (n := l.length) (P := fun i o => ∃ r, o = some r ∧ (r = 1 ∨ r = 0 ∧ ∀ p ∈ l.drop i, prB p)) (by omega)
      (fun fu => by unfold m_w19_Long_l1; rw [d_nlt (by omega)]; exact ⟨0, rfl, .inr ⟨rfl, by simp⟩⟩)
      (fun fu i hi ih => by
        unfold m_w19_Long_l1
        have hwi := hw l[i] (List.getElem_mem hi)
        have hv := maxLen_le hwi.Var
        rw [d_lt (by omega), cond_true, geti_lt hi, obind_some]
        by_cases ht : 40 < l[i].Var.length
        · rw [d_lt (by omega)]; exact ⟨1, rfl, .inl rfl⟩
        · rw [d_nlt (by omega), cond_false, obind_some]
          obtain ⟨q, e, hq⟩ := over_ok (l := [l[i].E]) (k := 1) (by decide) (by simpa using wf_evM hwi.E)
          rw [e, obind_some]
          rcases hq with rfl | ⟨rfl, _, hq⟩
          · exact ⟨1, rfl, .inl rfl⟩
          · rw [d_nlt (by decide), cond_false, inc_ok (by omega)]
            obtain ⟨r, e, k⟩ := ih
            refine ⟨r, e, k.imp id fun ⟨k1, k2⟩ => ⟨k1, ?_⟩⟩
            rw [drop_cons hi]
            intro p hp
            rcases List.mem_cons.1 hp with rfl | hp
            · exact ⟨by omega, hq _ (by simp)⟩
            · exact k2 p hp)
    obtain ⟨r, e, q⟩ := this
    exact ⟨r, e, q.imp id fun ⟨q1, q2⟩ => ⟨q1, by omega, by simpa using q2⟩⟩
theorem pairs_ok {l : List GPair} (hb : bdB l) : m_w19_Pairs l = some l := by
  have := map_loop (L := fun fu s i => m_w19_Pairs_l0 l fu s i) (l := l) (f := id) (e := id) (by have := hb.1; omega) (fun fu s => by unfold m_w19_Pairs_l0; rw [d_nlt (by omega)]; rfl)
    (fun fu s i h hs => by
      have hi := (hb.2 _ (List.getElem_mem h)).2.2.1
      conv => lhs; unfold m_w19_Pairs_l0
      rw [d_lt (by omega), cond_true, geti_lt h, obind_some, obind_some, own_ok (by omega), obind_some, app_ok (by simp; omega), obind_some, inc_ok (by have := hb.1; omega)]; rfl)
  rw [List.map_id] at this; exact this
end Go.Proofs.Ytelhmhmgaaebpaa.K

namespace Go.Proofs.Ytelhmhmgaaebpaa.K
open Go.RowKit Go.Lib
theorem over22_ok {l : List GWait} (hw : ∀ w ∈ l, wf_GWait w) : ∃ r, m_w22_Over ⟨0, l⟩ = some r ∧ (r = 1 ∨ r = 0 ∧ l.length ≤ 12 ∧ ∀ w ∈ l, bdB w.Bound ∧ w.Sets.length ≤ 20) := by
  unfold m_w22_Over
  simp only []
  by_cases h : 12 < l.length
  · rw [d_lt (by omega)]; exact ⟨1, rfl, .inl rfl⟩
  · rw [d_nlt (by omega), cond_false]
    have := loop1_0 (L := fun fu i => m_w22_Over_l1 ⟨0, l⟩ fu i) (n := l.length) (P := fun i o => ∃ r, o = some r ∧ (r = 1 ∨ r = 0 ∧ ∀ w ∈ l.drop i, bdB w.Bound ∧ w.Sets.length ≤ 20)) (by omega)
      (fun fu => by unfold m_w22_Over_l1; simp only []; rw [d_nlt (by omega)]; exact ⟨0, rfl, .inr ⟨rfl, by simp⟩⟩)
      (fun fu i hi ih => by
        unfold m_w22_Over_l1
        simp only []
        have hwi := hw l[i] (List.getElem_mem hi)
        rw [d_lt (by omega), cond_true, geti_lt hi, obind_some]
        obtain ⟨q, e, hq⟩ := long_ok (l := l[i].Bound) (fun p hp => hwi.Bound.2 p hp)
        rw [e, obind_some]
        rcases hq with rfl | ⟨rfl, hq⟩
        · exact ⟨1, rfl, .inl rfl⟩
        · rw [d_nlt (by decide), cond_false, obind_some]
          by_cases hs : 20 < l[i].Sets.length
          · rw [d_lt (by omega)]; exact ⟨1, rfl, .inl rfl⟩
          · rw [d_nlt (by omega), cond_false, inc_ok (by omega)]
            obtain ⟨r, e, k⟩ := ih
            refine ⟨r, e, k.imp id fun ⟨k1, k2⟩ => ⟨k1, ?_⟩⟩
            rw [drop_cons hi]
            intro p hp
            rcases List.mem_cons.1 hp with rfl | hp
            · exact ⟨hq, by omega⟩
            · exact k2 p hp)
    obtain ⟨r, e, q⟩ := this
    exact ⟨r, e, q.imp id fun ⟨q1, q2⟩ => ⟨q1, by omega, by simpa using q2⟩⟩
theorem own22_ok {w : GWait} (h : bdB w.Bound) (hs : w.Sets.length ≤ 20) : m_w22_Own w = some w := by
  unfold m_w22_Own
  rw [pairs_ok h, obind_some, app_ok (by simp; omega), obind_some, List.nil_append]
theorem lo_mono {a b : Int} (h : a ≤ b) {w : GWait} (hw : lo a w = true) : lo b w = true := by
  unfold lo at *
  simp only [decide_eq_true_eq] at *
  omega
theorem rest_eq {a b : Int} (h : a ≤ b) (L : List GWait) : (L.filter fun w => !lo a w).filter (fun w => !lo b w) = L.filter fun w => !lo b w := by
  rw [List.filter_filter]
  refine List.filter_congr fun w _ => ?_
  cases hb : lo b w with
  | true => rfl
  | false =>
    cases ha : lo a w with
    | true => rw [lo_mono h ha] at hb; cases hb
    | false => rfl
theorem first_eq {a b : Int} (h : a ≤ b) (L : List GWait) : (L.filter (lo b)).filter (lo a) = L.filter (lo a) := by
  rw [List.filter_filter]
  refine List.filter_congr fun w _ => ?_
  cases ha : lo a w with
  | true => rw [lo_mono h ha]; rfl
  | false => rfl
theorem second_eq {a b : Int} (L : List GWait) : (L.filter (lo b)).filter (fun w => !lo a w) = (L.filter fun w => !lo a w).filter (lo b) := by
  rw [List.filter_filter, List.filter_filter]
  refine List.filter_congr fun w _ => ?_
  rw [Bool.and_comm]
theorem all_eq {a b : Int} (h : a ≤ b) {L A B R : List GWait} (hap : L.Pairwise fun x y => cw x y ≠ 0) (hA : A.Perm (L.filter (lo a)) ∧ Srt (ltc cw) A) (hB : B.Perm ((L.filter fun w => !lo a w).filter (lo b)) ∧ Srt (ltc cw) B) (hR : R.Perm (L.filter (lo b)) ∧ Srt (ltc cw) R) : R = A ++ B := by
  have sub : ∀ (p : GWait → Bool), (L.filter p).Pairwise fun x y => cw x y ≠ 0 := fun p => hap.sublist List.filter_sublist
  have hp : R.Perm (A ++ B) := by
    refine hR.1.trans ?_
    refine (List.filter_append_perm (lo a) (L.filter (lo b))).symm.trans ?_
    rw [first_eq h, second_eq]
    exact (hA.1.append hB.1).symm
  refine srt_uni hp (srt_strict hR.2 (diff_perm hR.1 (sub _))) ?_
  refine List.pairwise_append.2 ⟨srt_strict hA.2 (diff_perm hA.1 (sub _)), srt_strict hB.2 (diff_perm hB.1 ((sub _).sublist List.filter_sublist)), fun x hx y hy => ?_⟩
  have h1 : lo a x = true := (List.mem_filter.1 (hA.1.mem_iff.1 hx)).2
  have h2 : (!lo a y) = true := (List.mem_filter.1 (List.mem_filter.1 (hB.1.mem_iff.1 hy)).1).2
  unfold lo at h1 h2
  simp only [decide_eq_true_eq, Bool.not_eq_true', decide_eq_false_iff_not] at h1 h2
  have e : cmpI x.End y.End = -1 := by unfold cmpI; rw [if_pos (by omega)]
  unfold cw lexI
  rw [e, if_pos (by decide)]; decide
theorem cw_lt {x y : GWait} (h : cw x y < 0) : x.End < y.End ∨ (x.End = y.End ∧ rk x.Bound y.Bound < 0) := by
  unfold cw lexI cmpI at h
  by_cases h1 : x.End < y.End
  · exact .inl h1
  · by_cases h2 : y.End < x.End
    · simp [h1, h2] at h
    · simp [h1, h2] at h
      exact .inr ⟨by omega, h⟩
theorem ends_l20 {s : Nat} {p2 : GArr2_Int} {A B R rest : List GWait} {c : Int} {z1 z3 : GTrail} (hR : R = A ++ B) (hst : R.Pairwise fun x y => cw x y < 0) (hl : R.length ≤ 1000) (hw : ∀ w ∈ R, w.Bound.length ≤ 20 ∧ w.Sets ≠ [] ∧ w.End < p2.a1) (hrl : rest.length ≤ 1000) (hr : ∀ w ∈ rest, p2.a1 ≤ w.End) :
    m_w22_TrailEnds_l20 p2 (A, z1) (B, ⟨c, rest⟩) (R, z3) 1152921504606846976 0 = some true := by
  have hRl : R.length = A.length + B.length := by rw [hR, List.length_append]
  exact loop1_0 (L := fun fu i => m_w22_TrailEnds_l20 p2 (A, z1) (B, ⟨c, rest⟩) (R, z3) fu i) (n := R.length) (P := fun i o => o = some true) (by omega)
    (fun fu => by
      obtain ⟨m, b, e, hb, hm⟩ := least_ok (c := c) hrl hr
      unfold m_w22_TrailEnds_l20
      simp only []
      rw [d_nlt (by omega), cond_false, awk22]
      rw [e, obind_some]
      simp only []
      cases b with
      | false =>
        rw [Bool.not_false, cond_true, decide_eq_true (by rw [hb]; simp), cond_true]; rfl
      | true =>
        rw [Bool.not_true, cond_false, decide_eq_true (hm rfl), cond_true, decide_eq_true (by rw [hb]; simp), cond_true]; rfl)
    (fun fu i hi ih => by
      have hx := hw _ (List.getElem_mem hi)
      have hsl : 0 < R[i].Sets.length := List.length_pos_iff.2 hx.2.1
      have j28 : m_w22_TrailEnds_j28 (A, z1) (B, ⟨c, rest⟩) R[i] (i : Int) (fun y22_20 => m_w22_TrailEnds_l20 p2 (A, z1) (B, ⟨c, rest⟩) (R, z3) fu y22_20) = some true := by
        unfold m_w22_TrailEnds_j28 m_w22_TrailEnds_j26 m_w22_TrailEnds_j25
        simp only []
        rw [decide_eq_false (by omega), cond_false, inc_ok (by omega)]
        by_cases hA : i < A.length
        · have e : A[i] = R[i] := by simp only [hR]; rw [List.getElem_append_left hA]
          rw [d_lt (by omega), cond_true, geti_lt hA, obind_some, e, rank_ok _ _ (by have := hx.1; omega), obind_some, rk_self, decide_eq_false (by simp), cond_false, decide_eq_false (by omega), cond_false]
          exact ih
        · have hB : i - A.length < B.length := by omega
          have e : B[i - A.length] = R[i] := by simp only [hR]; rw [List.getElem_append_right (by omega)]
          have ew : IntKind.i64.wrap ((i : Int) - ((List.length A : Nat) : Int)) = ((i - A.length : Nat) : Int) := by rw [w64 (by omega) (by omega)]; omega
          rw [d_nlt (by omega), cond_false, decide_eq_true (by omega), cond_true, ew, geti_lt hB, obind_some, e, rank_ok _ _ (by have := hx.1; omega), obind_some, rk_self, decide_eq_false (by simp), cond_false]
          exact ih
      unfold m_w22_TrailEnds_l20
      simp only []
      rw [d_lt (by omega), cond_true, geti_lt hi, obind_some]
      by_cases h0 : 0 < i
      · have hp : i - 1 < R.length := by omega
        have ew : IntKind.i64.wrap ((i : Int) - 1) = ((i - 1 : Nat) : Int) := by rw [w64 (by omega) (by omega)]; omega
        have hc : cw R[i - 1] R[i] < 0 := (List.pairwise_iff_getElem.1 hst) (i - 1) i hp hi (by omega)
        have hq := hw _ (List.getElem_mem hp)
        have hc' := cw_lt hc
        rw [d_lt (by omega), cond_true, ew, geti_lt hp, obind_some, d_nlt (by omega), cond_false, obind_some]
        by_cases he : R[i - 1].End = R[i].End
        · have hrk : rk R[i - 1].Bound R[i].Bound < 0 := by omega
          rw [decide_eq_true he, cond_true, obind_some, rank_ok _ _ (by have := hq.1; omega), obind_some, decide_eq_false (by omega), cond_false, decide_eq_false (by have := hx.2.2; omega), cond_false]
          exact j28
        · rw [decide_eq_false he, cond_false, decide_eq_false (by have := hx.2.2; omega), cond_false]
          exact j28
      · rw [d_nlt (by omega), cond_false, decide_eq_false (by have := hx.2.2; omega), cond_false]
        exact j28)
theorem ends_l10 {p1 : List GArr2_Int_} {p2 : GArr2_Int} (hp : p1.length ≤ 12) (h12 : p2.a0 ≤ p2.a1) {N : Nat} (hN : N ≤ 12) : ∀ (n i fu g : Nat) (L : List GWait), i + n = p1.length → n < fu → TB 12 240 L → L.length + g = N → m_w22_TrailEnds_l10 p1 p2 (N : Int) fu ⟨12, L⟩ (g : Int) (i : Int) = some true := by
  intro n
  induction n with
  | zero =>
    intro i fu g L hi hf hT hg
    obtain ⟨fu, rfl⟩ : ∃ k, fu = k + 1 := ⟨fu - 1, by omega⟩
    have hl := hT.len
    have hfl : ∀ p : GWait → Bool, (L.filter p).length ≤ 12 := fun p => Nat.le_trans (List.length_filter_le _ _) hl
    have hfw : ∀ p : GWait → Bool, ∀ w ∈ L.filter p, wB 240 w := fun p w hw => hT.w w ((List.mem_filter.1 hw).1)
    obtain ⟨A, e1, hA1, hA2⟩ := ripe_ok (s := 240) (by omega) (by omega) hT.w 12 p2.a0
    obtain ⟨B, e2, hB1, hB2⟩ := ripe_ok (s := 240) (L := L.filter fun w => !lo p2.a0 w) (by omega) (by have := hfl (fun w => !lo p2.a0 w); omega) (hfw _) 12 p2.a1
    obtain ⟨R, e3, hR1, hR2⟩ := ripe_ok (s := 240) (by omega) (by omega) hT.w 12 p2.a1
    have hap := ap_cw hT.ap
    have hall := all_eq h12 hap ⟨hA1, hA2⟩ ⟨hB1, hB2⟩ ⟨hR1, hR2⟩
    have hRl : R.length = A.length + B.length := by rw [hall, List.length_append]
    have hsum : (L.filter (lo p2.a1)).length + (L.filter fun w => !lo p2.a1 w).length = L.length := by
      have := (List.filter_append_perm (lo p2.a1) L).length_eq
      rw [List.length_append] at this; exact this
    have hRf := hR1.length_eq
    have hf1 := hfl (lo p2.a1)
    rw [rest_eq h12] at e2
    unfold m_w22_TrailEnds_l10
    rw [d_nlt (by omega), cond_false, e1, obind_some]
    simp only []
    rw [e2, obind_some, e3, obind_some]
    simp only []
    have w1 : IntKind.i64.wrap (((List.length A : Nat) : Int) + ((List.length B : Nat) : Int)) = ((List.length R : Nat) : Int) := by rw [w64 (by omega) (by omega)]; omega
    have w2 : IntKind.i64.wrap (((List.length R : Nat) : Int) + ((List.length (L.filter fun w => !lo p2.a1 w) : Nat) : Int)) = ((List.length L : Nat) : Int) := by rw [w64 (by omega) (by omega)]; omega
    have w3 : IntKind.i64.wrap (((List.length L : Nat) : Int) + (g : Int)) = (N : Int) := by rw [w64 (by omega) (by omega)]; omega
    rw [w1, w2, w3, obind_some, decide_eq_false (by simp), cond_false, obind_some, decide_eq_false (by simp), cond_false, same_self (s := 240) (by omega) (by have := hfl (fun w => !lo p2.a1 w); omega) (hfw _), obind_some, Bool.not_true, cond_false]
    refine ends_l20 (s := 240) hall (srt_strict hR2 (diff_perm hR1 (hap.sublist List.filter_sublist))) (by omega) (fun w hw => ?_) (by have := hfl (fun w => !lo p2.a1 w); omega) (fun w hw => ?_)
    · have hm := List.mem_filter.1 (hR1.mem_iff.1 hw)
      refine ⟨(hT.w w hm.1).1, hT.ne w hm.1, ?_⟩
      have := hm.2
      unfold lo at this
      simpa using this
    · have := (List.mem_filter.1 hw).2
      unfold lo at this
      simp only [Bool.not_eq_true', decide_eq_false_iff_not] at this
      omega
  | succ n ih =>
    intro i fu g L hi hf hT hg
    obtain ⟨fu, rfl⟩ : ∃ k, fu = k + 1 := ⟨fu - 1, by omega⟩
    have hil : i < p1.length := by omega
    have hl := hT.len
    obtain ⟨L', e, hT', hlen⟩ := hit_ok (Nat.le_refl _) (Nat.le_refl _) hT (IntKind.i64.wrap (Int.tmod p1[i].a0 16)) p1[i].a1
    have w1 : IntKind.i64.wrap ((g : Int) + ((List.length L : Nat) : Int)) = ((g + L.length : Nat) : Int) := by rw [w64 (by omega) (by omega)]; omega
    have w2 : IntKind.i64.wrap (((g + L.length : Nat) : Int) - ((List.length L' : Nat) : Int)) = ((g + L.length - L'.length : Nat) : Int) := by rw [w64 (by omega) (by omega)]; omega
    have w3 : IntKind.i64.wrap (((List.length L : Nat) : Int) - ((List.length L' : Nat) : Int)) = ((L.length - L'.length : Nat) : Int) := by rw [w64 (by omega) (by omega)]; omega
    unfold m_w22_TrailEnds_l10
    rw [d_lt (by omega), cond_true, geti_lt hil, obind_some, obind_some, e, obind_some]
    simp only []
    rw [w1, w2, w3, obind_some, obind_some, decide_eq_false (by omega), cond_false, d_nlt (by omega), cond_false, inc_ok (by omega)]
    exact ih (i + 1) fu (g + L.length - L'.length) L' (by omega) (by omega) hT' (by omega)
theorem ends_l5 {p0 : List GWait} {p1 : List GArr2_Int_} {p2 : GArr2_Int} (h0 : p0.length ≤ 12) (hw : ∀ w ∈ p0, bdB w.Bound ∧ w.Sets.length ≤ 20) (hp : p1.length ≤ 12) (h12 : p2.a0 ≤ p2.a1) : ∀ (n i fu : Nat) (L : List GWait), i + n = p0.length → n < fu → TB i (20 * i) L → m_w22_TrailEnds_l5 p0 p1 p2 fu 12 L ((L.length : Nat) : Int) (i : Int) = some true := by
  intro n
  induction n with
  | zero =>
    intro i fu L hi hf hT
    obtain ⟨fu, rfl⟩ : ∃ k, fu = k + 1 := ⟨fu - 1, by omega⟩
    have hl := hT.len
    unfold m_w22_TrailEnds_l5
    rw [d_nlt (by omega), cond_false]
    exact ends_l10 hp h12 (N := L.length) (by omega) p1.length 0 _ 0 L (by omega) (by omega) (hT.mono (by omega) (by omega)) (by omega)
  | succ n ih =>
    intro i fu L hi hf hT
    obtain ⟨fu, rfl⟩ : ∃ k, fu = k + 1 := ⟨fu - 1, by omega⟩
    have hil : i < p0.length := by omega
    have hwi := hw _ (List.getElem_mem hil)
    obtain ⟨L', e, q, hT', he⟩ := add_ok (k := i) (s := 20 * i) (by omega) (by omega) hT (w := p0[i]) ⟨hwi.1.1, hwi.2⟩
    have hT2 : TB (i + 1) (20 * (i + 1)) L' := hT'.mono (Nat.le_refl _) (by omega)
    unfold m_w22_TrailEnds_l5
    rw [d_lt (by omega), cond_true, geti_lt hil, obind_some, own22_ok hwi.1 hwi.2, obind_some, q, obind_some, obind_some]
    simp only []
    rcases he with ⟨hs0, rfl⟩ | ⟨hs0, rfl⟩
    · rw [decide_eq_false (by rw [hs0]; simp), cond_false, decide_eq_false (by decide), cond_false, inc_ok (by omega)]
      exact ih (i + 1) fu L' (by omega) (by omega) hT2
    · have hpos : 0 < p0[i].Sets.length := List.length_pos_iff.2 hs0
      rw [decide_eq_false (by rw [decide_eq_true (show (0 : Int) < ((List.length p0[i].Sets : Nat) : Int) by omega)]; simp), cond_false, decide_eq_false (by decide), cond_false, inc_ok (by omega)]
      exact ih (i + 1) fu L' (by omega) (by omega) hT2
theorem main_TrailEnds (p0 : List GWait) (p1 : List GArr2_Int_) (p2 : GArr2_Int) (h0 : wfL wf_GWait p0) (h1 : wfL wf_GArr2_Int_ p1) (h2 : wf_GArr2_Int p2) : m_w22_TrailEnds p0 p1 p2 = some true := by
  have j1 : m_w22_TrailEnds_j1 = some true := by
    unfold m_w22_TrailEnds_j1
    rw [awk22]; rfl
  unfold m_w22_TrailEnds
  obtain ⟨r, e, q⟩ := over22_ok h0.2
  rw [e, obind_some, j1, awk22]
  rcases q with rfl | ⟨rfl, hl, hw⟩
  · rfl
  rw [d_nlt (by decide), cond_false]
  by_cases h12 : 12 < p1.length
  · rw [d_lt (by omega), cond_true]
  rw [d_nlt (by omega), cond_false]
  by_cases ha : p2.a1 < p2.a0
  · rw [d_lt ha, cond_true]; rfl
  rw [d_nlt ha, cond_false, show m_trail_New 12 = some (⟨12, []⟩, 0) from rfl, obind_some]
  simp only []
  rw [decide_eq_false (by simp), cond_false]
  exact ends_l5 hl hw (by omega) (by omega) p0.length 0 1152921504606846976 [] (by omega) (by omega) ⟨Nat.le_refl _, by simp, by simp, List.Pairwise.nil⟩
end Go.Proofs.Ytelhmhmgaaebpaa.K
