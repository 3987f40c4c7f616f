/- TokenTurns: plain. -/
import Derived.Test.YtkamekhkkkeedaaPtok
import Derived.Test.YtkamekhkkkeedaaPtrn
import Derived.Test.YtkamekhkkkeedaaPtbs
import Derived.Test.YtkamekhkkkeedaaLO
namespace Go.Proofs.Ytkamekhkkkeedaa.K
open Go.RowKit Go.Lib
set_option linter.unusedVariables false
set_option linter.unusedSimpArgs false
theorem awk28 : m_telltalelaw28_awake = some true := by decide +kernel
theorem bown_ok {l : List GLeave} (hl : l.length ≤ 1000000) : m_telltalelaw28_Own l = some (ownB l) := by
  exact map_loop (L := fun fu s i => m_telltalelaw28_Own_l0 l fu s i) (l := l) (f := up) (e := GBook.mk) (by omega) (fun fu s => by unfold m_telltalelaw28_Own_l0; rw [d_nlt (by omega)]; rfl)
    (fun fu s i h hs => by
      conv => lhs; unfold m_telltalelaw28_Own_l0
      rw [d_lt (by omega), cond_true, geti_lt h, obind_some, obind_some, obind_some, app_ok (by simp; omega), obind_some, inc_ok (by omega)]; rfl)
theorem bback_ok {l : List GLeave} (hl : l.length ≤ 1000000) : m_telltalelaw28_Back (ownB l) = some l := by
  have := map_loop (L := fun fu s i => m_telltalelaw28_Back_l0 (ownB l) fu s i) (l := (ownB l).L) (f := dn) (e := id) (by rw [ownB_len]; omega) (fun fu s => by unfold m_telltalelaw28_Back_l0; rw [d_nlt (by omega)]; rfl)
    (fun fu s i h hs => by
      have h' := h
      rw [ownB_len] at h'
      conv => lhs; unfold m_telltalelaw28_Back_l0
      rw [d_lt (by omega), cond_true, geti_lt h, obind_some, obind_some, obind_some, app_ok (by simp; omega), obind_some, inc_ok (by omega)]; rfl)
  refine this.trans ?_
  congr 1
  simp only [id, ownB, List.map_map]
  exact List.map_id _
theorem rhold_ok {l : List GLeave} (hl : l.length ≤ 1000) (A B : Int) : m_telltaleref28_Hold l A B = some (holdL l A B) := by
  unfold m_telltaleref28_Hold m_telltaleref28_Hold_j1 holdL mayP leads
  by_cases h1 : A < 0
  · rw [d_lt h1, cond_true, decide_eq_false (p := 0 ≤ A) (by omega)]; simp
  · rw [d_nlt h1, cond_false, decide_eq_true (p := 0 ≤ A) (by omega)]
    by_cases h2 : 3 < A
    · rw [d_lt h2, cond_true, decide_eq_false (p := A ≤ 3) (by omega)]; simp
    · rw [d_nlt h2, cond_false, decide_eq_true (p := A ≤ 3) (by omega)]
      by_cases h3 : B < 0
      · rw [d_lt h3, cond_true, decide_eq_false (p := 0 ≤ B) (by omega)]; simp
      · rw [d_nlt h3, cond_false, decide_eq_true (p := 0 ≤ B) (by omega)]
        by_cases h4 : 1099511627776 < B
        · rw [d_lt h4, cond_true, decide_eq_false (p := B ≤ 1099511627776) (by omega)]; simp
        · rw [d_nlt h4, cond_false, decide_eq_true (p := B ≤ 1099511627776) (by omega)]
          simp only [Bool.and_true, Bool.true_and, decide_true, if_true, Int.le_refl]
          by_cases h5 : 100 ≤ l.length
          · rw [decide_eq_true (by omega), cond_true, if_pos h5]
          · rw [decide_eq_false (by omega), cond_false, if_neg h5, app_ok (by simp; omega), obind_some, app_ok (by simp; omega), obind_some, List.nil_append]
theorem why_in {l : List GLeave} {i : Nat} (h : i < l.length) : m_telltaleref28_why l (i : Int) = some (if l[i].Held then 0 else 20) := by
  unfold m_telltaleref28_why
  rw [d_nlt (by omega), cond_false, decide_eq_false (by omega), cond_false, geti_lt h, obind_some]
  cases l[i].Held <;> rfl
theorem why_out {l : List GLeave} {A : Int} (h : A < 0 ∨ (l.length : Int) ≤ A) : m_telltaleref28_why l A = some 6 := by
  unfold m_telltaleref28_why
  by_cases h0 : A < 0
  · rw [d_lt h0, cond_true]
  · rw [d_nlt h0, cond_false, decide_eq_true (by omega), cond_true]
theorem rwith_ok {l : List GLeave} (hl : l.length ≤ 1000000) {i : Nat} (h : i < l.length) (y : GLeave) : m_telltaleref28_with l (i : Int) y = some (l.set i y) := by
  unfold m_telltaleref28_with
  rw [app_ok (by simp; omega), obind_some, List.nil_append, geti_lt h, obind_some, Int.toNat_natCast]
theorem rlower_ok {l : List GLeave} (hl : l.length ≤ 1000) (A B : Int) : m_telltaleref28_Lower l A B = some (lowerL l A B) := by
  unfold m_telltaleref28_Lower lowerL
  by_cases h : A < 0 ∨ (l.length : Int) ≤ A
  · rw [why_out h, obind_some, decide_eq_true (by omega), cond_true, if_pos h]
  · obtain ⟨i, rfl, hi, hg⟩ := get_in (l := l) (A := A) (by omega)
    rw [if_neg h, hg, why_in hi, obind_some]
    cases hh : l[i].Held
    · simp [hh]
    · simp only [hh, if_true]
      rw [decide_eq_false (by omega), cond_false, geti_lt hi, obind_some]
      by_cases h1 : 1099511627776 < B
      · rw [d_lt h1, cond_true]; simp [hh, h1]
      · rw [d_nlt h1, cond_false]
        by_cases h2 : B < l[i].Time
        · rw [d_lt h2, cond_true]; simp [hh, h2]
        · rw [d_nlt h2, cond_false, rwith_ok (by omega) hi, obind_some, rnormal_ok two_small, obind_some]
          simp [hh, h1, h2]
theorem rdrop_ok {l : List GLeave} (hl : l.length ≤ 1000) (A : Int) : m_telltaleref28_Drop l A = some (dropL l A) := by
  unfold m_telltaleref28_Drop dropL
  by_cases h : A < 0 ∨ (l.length : Int) ≤ A
  · rw [why_out h, obind_some, decide_eq_true (by omega), cond_true, if_pos h]
  · obtain ⟨i, rfl, hi, hg⟩ := get_in (l := l) (A := A) (by omega)
    rw [if_neg h, hg, why_in hi, obind_some]
    cases hh : l[i].Held
    · simp [hh]
    · simp only [hh, if_true]
      rw [decide_eq_false (by omega), cond_false, geti_lt hi, obind_some, rwith_ok (by omega) hi, obind_some]
      simp [hh]
theorem rmay_ok {l : List GLeave} (hl : l.length ≤ 1000000) (A B : Int) : m_telltaleref28_May l A B = some (mayL l A B) := by
  unfold m_telltaleref28_May
  have key := loop1_0 (L := fun fu i => m_telltaleref28_May_l0 l A B fu i) (n := l.length) (P := fun i o => o = some (mayL (l.drop i) A B)) (by omega)
    (fun fu => by
      unfold m_telltaleref28_May_l0
      rw [d_nlt (by omega), cond_false]; simp [mayL])
    (fun fu i hi ih => by
      unfold m_telltaleref28_May_l0 m_telltaleref28_May_j3
      rw [d_lt (by omega), cond_true, geti_lt hi, obind_some, drop_cons hi, inc_ok (by omega)]
      unfold mayL
      rw [List.any_cons]
      have ih' : m_telltaleref28_May_l0 l A B fu ((i + 1 : Nat) : Int) = some ((l.drop (i + 1)).any fun x => x.Held && (decide (x.Loc = A) && decide (x.Time ≤ B))) := ih
      cases l[i].Held
      · rw [cond_false, Bool.false_and, Bool.false_or]; exact ih'
      · rw [cond_true, obind_some, Bool.true_and]
        by_cases h1 : l[i].Loc = A
        · rw [decide_eq_true h1, cond_true, obind_some, Bool.true_and]
          by_cases h2 : l[i].Time ≤ B
          · rw [decide_eq_true h2, cond_true, Bool.true_or]
          · rw [decide_eq_false h2, cond_false, Bool.false_or]; exact ih'
        · rw [decide_eq_false h1, cond_false, Bool.false_and, Bool.false_or]; exact ih')
  simpa using key
theorem rtally_ok {l : List GLeave} (hl : l.length ≤ 500000) : m_telltaleref28_Tally l = some (nrm (heldc l)) := by
  unfold m_telltaleref28_Tally
  have key := loopG_0 (L := fun fu s i => m_telltaleref28_Tally_l0 l fu s i) (n := l.length) (P := fun i s o => s.length ≤ i → s ++ heldc (l.drop i) = heldc l → o = some (nrm (heldc l))) (by omega)
    (fun fu s hs e => by
      unfold m_telltaleref28_Tally_l0
      simp [heldc] at e
      rw [d_nlt (by omega), cond_false, e, rnormal_ok (heldc_small hl), obind_some])
    (fun fu s i hi ih hs e => by
      unfold m_telltaleref28_Tally_l0
      rw [d_lt (by omega), cond_true, geti_lt hi, obind_some]
      rw [drop_cons hi, heldc_cons] at e
      cases hh : l[i].Held
      · rw [hh] at e
        rw [cond_false, inc_ok (by omega)]
        exact ih s (by omega) (by simpa using e)
      · rw [hh] at e
        rw [cond_true, obind_some, obind_some, app_ok (by simp; omega), obind_some, inc_ok (by omega)]
        exact ih _ (by simp; omega) (by simpa [held] using e)) []
  exact key (Nat.le_refl _) rfl
theorem le_eq (x y : GLeave) : (decide (x.Loc = y.Loc) && (decide (x.Time = y.Time) && (decide (x.Held = y.Held) && true))) = decide (x = y) := by
  rw [Bool.eq_iff_iff]
  simp only [Bool.and_eq_true, decide_eq_true_eq, and_true]
  constructor
  · rintro ⟨h1, h2, h3⟩; cases x; cases y; simp_all
  · rintro rfl; exact ⟨rfl, rfl, rfl⟩
theorem rbsame_ok {a b : List GLeave} (ha : a.length ≤ 1000000) (hb : b.length ≤ 1000000) : m_telltaleref28_Same a b = some (decide (a = b)) := by
  unfold m_telltaleref28_Same
  by_cases hl : a.length = b.length
  · rw [decide_eq_false (by omega), cond_false, eq_loop (L := fun fu i => m_telltaleref28_Same_l1 a b fu i) hl (by omega) (fun fu => by unfold m_telltaleref28_Same_l1; rw [d_nlt (by omega), cond_false]) (fun fu i h1 h2 => by
      conv => lhs; unfold m_telltaleref28_Same_l1
      rw [d_lt (by omega), cond_true, geti_lt h1, obind_some, geti_lt h2, obind_some, obind_some, le_eq, inc_ok (by omega)]
      by_cases h : a[i] = b[i]
      · rw [decide_eq_true h, if_pos h]; rfl
      · rw [decide_eq_false h, if_neg h]; rfl)]
  · rw [decide_eq_true (by omega), cond_true, decide_eq_false (fun e => hl (by rw [e]))]
theorem j17_ok {p0 : GArr2_List_GLeave} {p1 : GTurn} {y : List GLeave} {c : List GChange} {e : Int} (h0 : p0.a0.length ≤ 101) (h1 : p0.a1.length ≤ 101) (hy : y.length ≤ 1000) (hc : c.length ≤ 1000) :
    m_telltalelaw28_TokenTurns_j17 p0 p1 (ownB p0.a0) e e (ownB y) y c c = some true := by
  have hn := nrm_len (heldc p0.a0)
  have hh := heldc_len p0.a0
  unfold m_telltalelaw28_TokenTurns_j17
  rw [bback_ok (by omega), obind_some, rbsame_ok (by omega) (by omega), obind_some, decide_eq_true rfl, cond_true, tback_ok (by omega), obind_some, rsame_ok (by omega) (by omega), obind_some, decide_eq_true rfl, cond_true, decide_eq_true rfl, cond_true,
    mayb_ok (by omega), obind_some, rmay_ok (by omega), obind_some, decide_eq_true rfl, cond_true, tallyb_ok (by omega), obind_some, tback_ok (by omega), obind_some, rtally_ok (by omega), obind_some, rsame_ok (by omega) (by omega), obind_some, decide_eq_true rfl, cond_true,
    bown_ok (by omega), obind_some, bsame_ok (by omega) (by omega), obind_some, rbsame_ok (by omega) (by omega), obind_some, decide_eq_true rfl, cond_true, bback_ok (by omega), obind_some, rbsame_ok (by omega) (by omega), obind_some, decide_eq_true rfl, cond_true, awk28]
  rfl
theorem j10_ok {p0 : GArr2_List_GLeave} {p1 : GTurn} {y : List GLeave} {c : List GChange} {e : Int} (h0 : p0.a0.length ≤ 101) (h1 : p0.a1.length ≤ 101) (hy : y.length ≤ 1000) (hc : c.length ≤ 1000) :
    m_telltalelaw28_TokenTurns_j10 p0 p1 (ownB p0.a0) (ownB y) y c c e e = some true := by
  have k := j17_ok (p1 := p1) (e := e) h0 h1 hy hc
  unfold m_telltalelaw28_TokenTurns_j10
  by_cases g0 : 0 ≤ p1.A
  · by_cases g1 : p1.A < p0.a0.length
    · obtain ⟨i, hA, hi, hg⟩ := get_in (l := p0.a0) (A := p1.A) ⟨g0, g1⟩
      rw [hA, getb_in hi, obind_some, decide_eq_true (by omega), cond_true, decide_eq_true (p := (i : Int) < ((List.length p0.a0 : Nat) : Int)) (by omega), decide_eq_false (by simp), cond_false, cond_true, ownB_get hi, obind_some, lv_eq, decide_eq_true rfl, Bool.not_true, obind_some, cond_false, cond_false]
      unfold m_telltalelaw28_TokenTurns_j16
      exact k
    · rw [getb_out (.inr (by omega)), obind_some, decide_eq_true g0, cond_true, d_nlt g1, decide_eq_false (by simp), cond_false, cond_false, Bool.not_false, cond_true]
      simp only [decide_true, Bool.and_self, Bool.not_true, obind_some]
      unfold m_telltalelaw28_TokenTurns_j15
      rw [cond_false]; exact k
  · rw [getb_out (.inl (by omega)), obind_some, decide_eq_false g0, cond_false, decide_eq_false (by simp), cond_false]
    unfold m_telltalelaw28_TokenTurns_j17 at k
    simp only [decide_true, Bool.and_self, Bool.not_true, obind_some, cond_false, cond_true] at k ⊢
    exact k
theorem main_TokenTurns (p0 : GArr2_List_GLeave) (p1 : GTurn) (h0 : wf_GArr2_List_GLeave p0) (h1 : wf_GTurn p1) : m_telltalelaw28_TokenTurns p0 p1 = some true := by
  unfold m_telltalelaw28_TokenTurns
  rw [awk28]
  by_cases l0 : 101 < p0.a0.length
  · rw [d_lt (by omega), cond_true]; rfl
  rw [d_nlt (by omega), cond_false]
  by_cases l1 : 101 < p0.a1.length
  · rw [d_lt (by omega), cond_true]; rfl
  rw [d_nlt (by omega), cond_false, bown_ok (by omega), obind_some]
  by_cases k0 : ((p1.Kind.toNat : Nat) : Int) = 0
  · rw [decide_eq_true k0, cond_true, hold_ok (by omega), obind_some, rhold_ok (by omega), obind_some, decide_eq_false (by simp), cond_false]
    refine j10_ok (by omega) (by omega) ?_ ?_
    · unfold holdL; split
      · split <;> simp <;> omega
      · simp; omega
    · unfold holdL; split
      · split <;> simp
      · simp
  · rw [decide_eq_false k0, cond_false]
    by_cases k1 : ((p1.Kind.toNat : Nat) : Int) = 1
    · rw [decide_eq_true k1, cond_true, lower_ok (by omega), obind_some, rlower_ok (by omega), obind_some]
      refine j10_ok (by omega) (by omega) ?_ ?_
      · unfold lowerL; split
        · simp; omega
        · split
          · simp; omega
          · split
            · simp; omega
            · split
              · simp; omega
              · simp; omega
      · unfold lowerL; split
        · simp
        · split
          · simp
          · split
            · simp
            · split
              · simp
              · rename_i x _ _ _
                have := nrm_len [(⟨x.Loc, x.Time, -1⟩ : GChange), ⟨x.Loc, p1.B, 1⟩]
                simp at this ⊢; omega
    · rw [decide_eq_false k1, cond_false, drop_ok (by omega), obind_some, rdrop_ok (by omega), obind_some]
      refine j10_ok (by omega) (by omega) ?_ ?_
      · unfold dropL; split
        · simp; omega
        · split
          · simp; omega
          · split
            · simp; omega
            · simp; omega
      · unfold dropL; split
        · simp
        · split
          · simp
          · split <;> simp
end Go.Proofs.Ytkamekhkkkeedaa.K
