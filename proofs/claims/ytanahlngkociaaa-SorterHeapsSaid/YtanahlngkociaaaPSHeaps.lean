/- SorterHeaps: plain. -/
import Derived.Test.YtanahlngkociaaaPhm
import Derived.Test.YtanahlngkociaaaLO
namespace Go.Proofs.Ytanahlngkociaaa.K
open Go.RowKit Go.Lib
set_option linter.unusedVariables false
set_option linter.unusedSimpArgs false
theorem awake24 : m_telltalelaw24_awake = some true := by decide +kernel
theorem fine_nil : m_sorter_Fine_int__telltalelaw24_less [] = some true := by decide +kernel
theorem fine_hp {l : List Int} (hl : l.length ≤ 1000000000) (h : Hp lti l) : m_sorter_Fine_int__telltalelaw24_less l = some true := by
  rcases Nat.eq_zero_or_pos l.length with h0 | h0
  · rw [List.length_eq_zero_iff.1 h0]; exact fine_nil
  · unfold m_sorter_Fine_int__telltalelaw24_less
    have := loop1 (L := fun fu i => m_sorter_Fine_int__telltalelaw24_less_l0 l fu i) (n := l.length) (P := fun i o => 1 ≤ i → o = some true)
      (fun fu _ => by unfold m_sorter_Fine_int__telltalelaw24_less_l0; rw [d_nlt (by omega), cond_false])
      (fun fu i hi ih h1 => by
        unfold m_sorter_Fine_int__telltalelaw24_less_l0
        rw [d_lt (by omega), cond_true, half1 h1 (by omega), lessint hi (by omega), obind_some, h i h1 hi, cond_false, inc_ok (by omega)]
        exact ih (by omega)) 1152921504606846976 1 h0 (by omega)
    exact this (Nat.le_refl _)
def fB (b : BitVec 64) : Int := IntKind.i64.wrap ((b.toNat : Nat) : Int)
theorem ofI_fB (b : BitVec 64) : BitVec.ofInt 64 (fB b) = b := by
  unfold fB
  apply BitVec.eq_of_toNat_eq
  rw [BitVec.toNat_ofInt]
  have := b.isLt
  simp [IntKind.wrap, IntKind.signed, IntKind.bits]
  omega
def xs : List Int → BitVec 64
  | [] => 0
  | a :: r => BitVec.ofInt 64 a ^^^ xs r
theorem xs_perm {l r : List Int} (h : l.Perm r) : xs l = xs r := by
  induction h with
  | nil => rfl
  | cons x _ ih => simp only [xs, ih]
  | swap x y l => simp only [xs]; rw [← BitVec.xor_assoc, ← BitVec.xor_assoc, BitVec.xor_comm (BitVec.ofInt 64 y)]
  | trans _ _ h1 h2 => exact h1.trans h2
theorem heaps_l8 (l h r : List Int) (x : Int) (i : Nat) (k : List Int → Int → Int → Option Bool) (hh : h.length ≤ 1000) (hi : i < l.length) (hl : l.length ≤ 1000) : m_telltalelaw24_SorterHeaps_l8 l h r h x (i : Int) k 1152921504606846976 0 = k r (IntKind.i64.wrap (((BitVec.ofInt 64 x ^^^ BitVec.ofInt 64 l[i]).toNat : Nat) : Int)) ((i + 1 : Nat) : Int) :=
  loop1_0 (L := fun fu j => m_telltalelaw24_SorterHeaps_l8 l h r h x (i : Int) k fu j) (n := h.length) (P := fun j o => o = k r (IntKind.i64.wrap (((BitVec.ofInt 64 x ^^^ BitVec.ofInt 64 l[i]).toNat : Nat) : Int)) ((i + 1 : Nat) : Int)) (by omega)
    (fun fu => by unfold m_telltalelaw24_SorterHeaps_l8; rw [d_nlt (by omega), cond_false, geti_lt hi, obind_some, inc_ok (by omega)])
    (fun fu j hj ih => by
      unfold m_telltalelaw24_SorterHeaps_l8
      rw [d_lt (by omega), cond_true, geti_lt hj, obind_some, obind_some, decide_eq_false (by simp), cond_false, inc_ok (by omega), ih])
theorem heaps_pop {l : List Int} (hl : l.length ≤ 40) (h0 : List Int) (n0 : h0.length = l.length) (p0 : Hp lti h0) : m_telltalelaw24_SorterHeaps_l12 l 1152921504606846976 h0 (fB (xs h0)) 0 0 = some true := by
  have := loopG_0 (L := fun fu (s : List Int × Int × Int) i => m_telltalelaw24_SorterHeaps_l12 l fu s.1 s.2.1 s.2.2 i) (n := l.length)
    (P := fun i s o => s.1.length = l.length - i → Hp lti s.1 → s.2.1 = fB (xs s.1) → (0 < i → ∀ y ∈ s.1, s.2.2 ≤ y) → o = some true) (by omega)
    (fun fu s h1 h2 h3 h4 => by
      obtain ⟨h, x, z⟩ := s
      simp only at *
      obtain rfl : h = [] := List.length_eq_zero_iff.1 (by omega)
      subst h3
      unfold m_telltalelaw24_SorterHeaps_l12
      rw [d_nlt (by omega), cond_false, popint_nil, obind_some]
      rw [awake24]; rfl)
    (fun fu s i hi ih h1 h2 h3 h4 => by
      obtain ⟨h, x, z⟩ := s
      simp only at *
      cases h with
      | nil => simp at h1; omega
      | cons a r =>
        subst h3
        have hlen := h1
        simp only [List.length_cons] at hlen
        have rl : (rest lti (a :: r)).length = r.length := rest_len ord_lti
        have rh : Hp lti (rest lti (a :: r)) := rest_heap ord_lti h2
        have rp : (a :: rest lti (a :: r)).Perm (a :: r) := rest_perm ord_lti
        have hm := head_min ord_lti h2
        unfold m_telltalelaw24_SorterHeaps_l12
        rw [d_lt (by omega), cond_true, popint (by omega), obind_some]
        simp only
        rw [Bool.not_true, cond_false, fine_hp (by omega) rh, obind_some, Bool.not_true, cond_false, obind_some]
        rw [w64 (n := (l.length : Int) - 1) (by omega) (by omega), w64 (n := (l.length : Int) - 1 - i) (by omega) (by omega)]
        unfold m_telltalelaw24_SorterHeaps_j17
        simp only
        rw [decide_eq_false (p := ((List.length (rest lti (a :: r)) : Nat) : Int) ≠ (l.length : Int) - 1 - i) (by omega), cond_false, inc_ok (by omega)]
        have hx : IntKind.i64.wrap (((BitVec.ofInt 64 (fB (xs (a :: r))) ^^^ BitVec.ofInt 64 a).toNat : Nat) : Int) = fB (xs (rest lti (a :: r))) := by
          rw [ofI_fB, ← xs_perm rp]
          simp only [xs]
          rw [BitVec.xor_comm (BitVec.ofInt 64 a), BitVec.xor_assoc, BitVec.xor_self, BitVec.xor_zero]; rfl
        rw [hx]
        have hn := ih (rest lti (a :: r), fB (xs (rest lti (a :: r))), a) (by simp only; omega) rh rfl (fun _ y hy => by
          have := hm y (rp.mem_iff.1 (List.mem_cons_of_mem _ hy))
          simp [lti] at this; exact this)
        simp only at hn
        rw [hn]
        by_cases hi0 : 0 < i
        · rw [d_lt (by omega), cond_true, d_nlt (by have := h4 hi0 a (by simp); omega), cond_false]
        · rw [d_nlt (by omega), cond_false])
    (h0, fB (xs h0), 0) (by simpa using n0) p0 rfl (fun h => by omega)
  exact this
theorem main_SorterHeaps (l : List Int) (w : wfL (inK .i64) l) : m_telltalelaw24_SorterHeaps l = some true := by
  unfold m_telltalelaw24_SorterHeaps
  rw [awake24]
  by_cases h : 40 < l.length
  · rw [d_lt (by omega)]; rfl
  · rw [d_nlt (by omega), cond_false, popint_nil, obind_some]
    simp only
    rw [cond_false]
    have := loopG_0 (L := fun fu (s : List Int × Int) i => m_telltalelaw24_SorterHeaps_l3 l fu s.1 s.2 i) (n := l.length)
      (P := fun i s o => s.1.length = i → Hp lti s.1 → s.2 = fB (xs s.1) → o = some true) (by omega)
      (fun fu s h1 h2 h3 => by
        obtain ⟨h, x⟩ := s
        simp only at *
        subst h3
        unfold m_telltalelaw24_SorterHeaps_l3
        rw [d_nlt (by omega), cond_false]
        exact heaps_pop (by omega) h h1 h2)
      (fun fu s i hi ih h1 h2 h3 => by
        obtain ⟨h, x⟩ := s
        simp only at *
        subst h3
        have pp : (push lti h l[i]).Perm (l[i] :: h) := push_perm
        have pl := pp.length_eq
        simp only [List.length_cons] at pl
        have ph : Hp lti (push lti h l[i]) := push_heap ord_lti h2
        unfold m_telltalelaw24_SorterHeaps_l3
        rw [d_lt (by omega), cond_true, app_ok (by simp; omega), obind_some, geti_lt hi, obind_some, pushint (by omega), obind_some, inc_ok (by omega), decide_eq_false (by omega), cond_false, fine_hp (by omega) ph, obind_some, Bool.not_true, cond_false, List.nil_append, heaps_l8 l h _ _ i _ (by omega) hi (by omega)]
        have hx : IntKind.i64.wrap (((BitVec.ofInt 64 (fB (xs h)) ^^^ BitVec.ofInt 64 l[i]).toNat : Nat) : Int) = fB (xs (push lti h l[i])) := by
          rw [ofI_fB, xs_perm pp]
          simp only [xs]
          rw [BitVec.xor_comm]; rfl
        rw [hx]
        exact ih (push lti h l[i], fB (xs (push lti h l[i]))) (by simp only; omega) ph rfl)
      ([], 0) rfl (fun j h1 h2 => by simp at h2) rfl
    exact this
end Go.Proofs.Ytanahlngkociaaa.K
