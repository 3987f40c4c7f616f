/- TokenSums: plain. -/
import Derived.Test.YtkamekhkkkeedaaPtok
import Derived.Test.YtkamekhkkkeedaaPfrm
import Derived.Test.YtkamekhkkkeedaaPtmg
import Derived.Test.YtkamekhkkkeedaaPtsame
import Derived.Test.YtkamekhkkkeedaaLO
namespace Go.Proofs.Ytkamekhkkkeedaa.K
open Go.RowKit Go.Lib
set_option linter.unusedVariables false
set_option linter.unusedSimpArgs false
theorem awk28s : m_telltalelaw28_awake = some true := by decide +kernel
theorem smallN {l : List GChange} (h : small l) : small (nrm l) := ⟨Nat.le_trans (nrm_len l) h.1, Nat.le_trans (nrm_abs l) h.2⟩
/-- Frontiers do not go back where what is there is not more. -/
theorem frn_le {l r : List GChange} {k : Int} (h : ∀ a b, leads a k = true → 0 < atp r a b → ∃ t, 0 < atp l a t ∧ t ≤ b) : frn l k ≤ frn r k := by
  obtain ⟨u1, u2, u3⟩ := frn_spec l k
  obtain ⟨v1, v2, v3⟩ := frn_spec r k
  rcases v3 with e | ⟨a, b, hl, hp, e⟩
  · omega
  · obtain ⟨t, ht, hb⟩ := h a b hl hp
    have := u2 a t hl ht
    omega
theorem drops_no {l r : List GChange} (h : ∀ k, frn l k ≤ frn r k) : dropsB l r = false := by
  cases hd : dropsB l r with
  | false => rfl
  | true =>
    obtain ⟨k, _, _, hk⟩ := dropsB_iff.1 hd
    have := h k
    omega
/-- What a turn does with what is held, and with the frontiers. -/
structure Turned (l l' : List GLeave) (c : List GChange) : Prop where
  at_ : ∀ a b, atp (heldc l') a b = atp (heldc l) a b + atp c a b
  len : l'.length ≤ l.length + 1
  clen : c.length ≤ 2
  cabs : absum c ≤ 2
theorem hold_turn (l : List GLeave) (A B : Int) : Turned l (holdL l A B).1 (holdL l A B).2.2.1 := by
  unfold holdL
  split
  · split
    · exact ⟨fun a b => by simp [atp], by simp, by simp, by simp [absum]⟩
    · refine ⟨fun a b => ?_, by simp, by simp, by simp [absum]⟩
      show atp (heldc (l ++ [⟨A, B, true⟩])) a b = atp (heldc l) a b + atp [⟨A, B, 1⟩] a b
      rw [heldc_app, atp_app]; rfl
  · exact ⟨fun a b => by simp [atp], by simp, by simp, by simp [absum]⟩
theorem lower_turn (l : List GLeave) (A B : Int) : Turned l (lowerL l A B).1 (lowerL l A B).2.1 ∧ ∀ k, frn (heldc l) k ≤ frn (heldc (lowerL l A B).1) k := by
  unfold lowerL
  by_cases h : A < 0 ∨ (l.length : Int) ≤ A
  · rw [if_pos h]; exact ⟨⟨fun a b => by simp [atp], by simp, by simp, by simp [absum]⟩, fun k => Int.le_refl _⟩
  · obtain ⟨i, rfl, hi, hg⟩ := get_in (l := l) (A := A) (by omega)
    rw [if_neg h, hg]
    simp only []
    by_cases hh : l[i].Held = false
    · rw [if_pos hh]; exact ⟨⟨fun a b => by simp [atp], by simp, by simp, by simp [absum]⟩, fun k => Int.le_refl _⟩
    · rw [if_neg hh]
      have hh : l[i].Held = true := by simpa using hh
      by_cases ht : 1099511627776 < B ∨ B < l[i].Time
      · rw [if_pos ht]; exact ⟨⟨fun a b => by simp [atp], by simp, by simp, by simp [absum]⟩, fun k => Int.le_refl _⟩
      · rw [if_neg ht]
        have hat : ∀ a b, atp (heldc (l.set i ⟨l[i].Loc, B, true⟩)) a b = atp (heldc l) a b + atp [(⟨l[i].Loc, l[i].Time, -1⟩ : GChange), ⟨l[i].Loc, B, 1⟩] a b := fun a b => by
          rw [heldc_set hi]
          have e1 : heldc [l[i]] = [⟨l[i].Loc, l[i].Time, 1⟩] := by rw [heldc_cons, if_pos hh]; rfl
          have e2 : heldc [(⟨l[i].Loc, B, true⟩ : GLeave)] = [⟨l[i].Loc, B, 1⟩] := by rw [heldc_cons, if_pos rfl]; rfl
          rw [e1, e2]
          simp only [atp]
          by_cases q1 : l[i].Loc = a ∧ l[i].Time = b
          · simp only [if_pos q1]; omega
          · simp only [if_neg q1]; omega
        refine ⟨⟨fun a b => ?_, by simp, ?_, ?_⟩, fun k => frn_le fun a b hl hp => ?_⟩
        · simp only [Int.toNat_natCast]; rw [hat, nrm_at]
        · have := nrm_len [(⟨l[i].Loc, l[i].Time, -1⟩ : GChange), ⟨l[i].Loc, B, 1⟩]
          simpa using this
        · have := nrm_abs [(⟨l[i].Loc, l[i].Time, -1⟩ : GChange), ⟨l[i].Loc, B, 1⟩]
          simpa [absum] using this
        · simp only [Int.toNat_natCast] at hp
          by_cases h0 : 0 < atp (heldc l) a b
          · exact ⟨b, h0, Int.le_refl _⟩
          · rw [hat] at hp
            have hn := heldc_nn (l := l) a b
            simp only [atp] at hp
            have hx : 0 < atp (heldc l) l[i].Loc l[i].Time := by
              have := heldc_set hi ⟨l[i].Loc, l[i].Time, false⟩ l[i].Loc l[i].Time
              have e1 : heldc [l[i]] = [⟨l[i].Loc, l[i].Time, 1⟩] := by rw [heldc_cons, if_pos hh]; rfl
              have e2 : heldc [(⟨l[i].Loc, l[i].Time, false⟩ : GLeave)] = [] := rfl
              rw [e1, e2] at this
              have n2 := heldc_nn (l := l.set i ⟨l[i].Loc, l[i].Time, false⟩) l[i].Loc l[i].Time
              have e3 : atp [(⟨l[i].Loc, l[i].Time, 1⟩ : GChange)] l[i].Loc l[i].Time = 1 := by simp [atp]
              have e4 : atp [] l[i].Loc l[i].Time = 0 := rfl
              rw [e3, e4] at this
              omega
            by_cases q2 : l[i].Loc = a ∧ B = b
            · obtain ⟨rfl, rfl⟩ := q2
              exact ⟨l[i].Time, hx, by omega⟩
            · simp only [if_neg q2] at hp
              exfalso
              by_cases q1 : l[i].Loc = a ∧ l[i].Time = b
              · simp only [if_pos q1] at hp; omega
              · simp only [if_neg q1] at hp; omega
theorem drop_turn (l : List GLeave) (A : Int) : Turned l (dropL l A).1 (dropL l A).2.1 ∧ ∀ k, frn (heldc l) k ≤ frn (heldc (dropL l A).1) k := by
  unfold dropL
  by_cases h : A < 0 ∨ (l.length : Int) ≤ A
  · rw [if_pos h]; exact ⟨⟨fun a b => by simp [atp], by simp, by simp, by simp [absum]⟩, fun k => Int.le_refl _⟩
  · obtain ⟨i, rfl, hi, hg⟩ := get_in (l := l) (A := A) (by omega)
    rw [if_neg h, hg]
    simp only []
    by_cases hh : l[i].Held = false
    · rw [if_pos hh]; exact ⟨⟨fun a b => by simp [atp], by simp, by simp, by simp [absum]⟩, fun k => Int.le_refl _⟩
    · rw [if_neg hh]
      have hh : l[i].Held = true := by simpa using hh
      have hat : ∀ a b, atp (heldc (l.set i ⟨l[i].Loc, l[i].Time, false⟩)) a b = atp (heldc l) a b + atp [(⟨l[i].Loc, l[i].Time, -1⟩ : GChange)] a b := fun a b => by
        rw [heldc_set hi]
        have e1 : heldc [l[i]] = [⟨l[i].Loc, l[i].Time, 1⟩] := by rw [heldc_cons, if_pos hh]; rfl
        have e2 : heldc [(⟨l[i].Loc, l[i].Time, false⟩ : GLeave)] = [] := rfl
        rw [e1, e2]
        simp only [atp]
        by_cases q1 : l[i].Loc = a ∧ l[i].Time = b
        · simp only [if_pos q1]; omega
        · simp only [if_neg q1]; omega
      refine ⟨⟨fun a b => by simp only [Int.toNat_natCast]; exact hat a b, by simp, by simp, by simp [absum]⟩, fun k => frn_le fun a b hl hp => ⟨b, ?_, Int.le_refl _⟩⟩
      simp only [Int.toNat_natCast] at hp
      rw [hat] at hp
      simp only [atp] at hp
      by_cases q1 : l[i].Loc = a ∧ l[i].Time = b
      · simp only [if_pos q1] at hp; omega
      · simp only [if_neg q1] at hp; omega
/-! ### behind a turn -/
theorem l23_ok {nx : List GChange} {y5 : Int} {b : GBook} {k : GBook → List GChange → Int → Option Bool} (hl : nx.length ≤ 1000000) (hp : ∀ x ∈ nx, 0 < x.N) (hk : k b nx (IntKind.i64.wrap (y5 + 1)) = some true) : m_telltalelaw28_TokenSums_j22 nx y5 b k = some true := by
  unfold m_telltalelaw28_TokenSums_j22
  exact loop1_0 (L := fun fu i => m_telltalelaw28_TokenSums_l23 nx y5 b k fu i) (n := nx.length) (P := fun i o => o = some true) (by omega)
    (fun fu => by unfold m_telltalelaw28_TokenSums_l23; rw [d_nlt (by omega), cond_false]; exact hk)
    (fun fu i hi ih => by
      unfold m_telltalelaw28_TokenSums_l23
      have := hp _ (List.getElem_mem hi)
      rw [d_lt (by omega), cond_true, geti_lt hi, obind_some, decide_eq_false (by omega), cond_false, inc_ok (by omega)]; exact ih)
/-- Where no leave was made. -/
theorem l15_other {p0 : List GTurn} {nx sm : List GChange} {i : Nat} {b : GBook} {e id : Int} {k : GBook → List GChange → Int → Option Bool} (hi : i < p0.length) (hg : ∃ z, m_token_Book_Get b id = some z) (hne : ¬ (e = 0 ∧ ((p0[i].Kind.toNat : Nat) : Int) = 0))
    (h22 : m_telltalelaw28_TokenSums_j22 nx (i : Int) b k = some true) : m_telltalelaw28_TokenSums_j14 p0 nx sm (i : Int) b e id k = some true := by
  unfold m_telltalelaw28_TokenSums_j14
  exact loop1_0 (L := fun fu j => m_telltalelaw28_TokenSums_l15 p0 nx sm (i : Int) b e id k fu j) (n := 4) (P := fun j o => o = some true) (by omega)
    (fun fu => by
      unfold m_telltalelaw28_TokenSums_l15 m_telltalelaw28_TokenSums_j21
      obtain ⟨z, hz⟩ := hg
      rw [decide_eq_false (by omega), cond_false, hz, obind_some]
      by_cases h0 : e = 0
      · rw [decide_eq_true h0, cond_true, geti_lt hi, obind_some, decide_eq_false (fun h => hne ⟨h0, h⟩), cond_false]; exact h22
      · rw [decide_eq_false h0, cond_false]; exact h22)
    (fun fu j hj ih => by
      unfold m_telltalelaw28_TokenSums_l15 m_telltalelaw28_TokenSums_j17
      rw [decide_eq_true (by omega), cond_true]
      by_cases h0 : e = 0
      · rw [decide_eq_true h0, cond_true, geti_lt hi, obind_some, decide_eq_false (fun h => hne ⟨h0, h⟩), cond_false, inc_ok (by omega)]; exact ih
      · rw [decide_eq_false h0, cond_false, inc_ok (by omega)]; exact ih)
/-- Where one was made. -/
theorem l15_hold {p0 : List GTurn} {nx sm : List GChange} {i : Nat} {b : GBook} {A B e id : Int} {k : GBook → List GChange → Int → Option Bool} (hi : i < p0.length) (hK : ((p0[i].Kind.toNat : Nat) : Int) = 0) (hA : p0[i].A = A) (hB : p0[i].B = B) (sn : small nx) (ss : small sm) (he : e = 0)
    (hf : ∀ k, frn nx k < frn sm k → frn nx k = B ∧ leads A k = true) (hg : m_token_Book_Get b id = some (⟨⟨A, B⟩, true⟩, true)) (hm : m_token_Book_May b A B = some true)
    (h22 : m_telltalelaw28_TokenSums_j22 nx (i : Int) b k = some true) : m_telltalelaw28_TokenSums_j14 p0 nx sm (i : Int) b e id k = some true := by
  unfold m_telltalelaw28_TokenSums_j14
  exact loop1_0 (L := fun fu j => m_telltalelaw28_TokenSums_l15 p0 nx sm (i : Int) b e id k fu j) (n := 4) (P := fun j o => o = some true) (by omega)
    (fun fu => by
      unfold m_telltalelaw28_TokenSums_l15
      rw [decide_eq_false (by omega), cond_false, hg, obind_some, decide_eq_true he, cond_true, geti_lt hi, obind_some, decide_eq_true hK, cond_true, Bool.not_true, cond_false]
      show cond (!true) _ (Option.bind (some p0[i]) fun x => cond (decide (A ≠ x.A)) _ (Option.bind (some p0[i]) fun x => cond (decide (B ≠ x.B)) _ (Option.bind (m_token_Book_May b A B) _))) = _
      rw [Bool.not_true, cond_false, obind_some, decide_eq_false (fun h => h hA.symm), cond_false, obind_some, decide_eq_false (fun h => h hB.symm), cond_false, hm, obind_some, Bool.not_true, cond_false]
      exact h22)
    (fun fu j hj ih => by
      unfold m_telltalelaw28_TokenSums_l15 m_telltalelaw28_TokenSums_j17
      rw [decide_eq_true (by omega), cond_true, decide_eq_true he, cond_true, geti_lt hi, obind_some, decide_eq_true hK, cond_true, of_ok sn, obind_some, of_ok ss, obind_some, inc_ok (by omega)]
      by_cases h : frn nx (j : Int) < frn sm (j : Int)
      · obtain ⟨h1, h2⟩ := hf _ h
        rw [d_lt h, cond_true, obind_some, obind_some, hB, decide_eq_false (fun q => q h1), cond_false, obind_some, leads_ok, obind_some, hA, h2, Bool.not_true, cond_false]; exact ih
      · rw [d_nlt h, cond_false]; exact ih)
theorem turn_ok {p0 : List GTurn} {i : Nat} {l l' : List GLeave} {c : List GChange} {e id : Int} {k : GBook → List GChange → Int → Option Bool} (hi : i < p0.length) (hl : l.length ≤ 100) (ht : Turned l l' c) (he : e ≠ 0 → l' = l ∧ c = [])
    (hfr : ((p0[i].Kind.toNat : Nat) : Int) ≠ 0 → ∀ k, frn (heldc l) k ≤ frn (heldc l') k) (hk : k (ownB l') (nrm (heldc l')) (IntKind.i64.wrap ((i : Int) + 1)) = some true)
    (h14 : m_telltalelaw28_TokenSums_j22 (nrm (heldc l')) (i : Int) (ownB l') k = some true → m_telltalelaw28_TokenSums_j14 p0 (nrm (heldc l')) (nrm (heldc l)) (i : Int) (ownB l') e id k = some true) :
    m_telltalelaw28_TokenSums_j9 p0 (ownB l) (nrm (heldc l)) (i : Int) k (ownB l') c e id = some true := by
  have hn : nrm (nrm (heldc l) ++ c) = nrm (heldc l') := nrm_congr fun a b => by rw [atp_app, nrm_at, ht.at_]
  have h1 := nrm_len (heldc l)
  have h2 := nrm_abs (heldc l)
  have h3 := heldc_len l
  have h4 := heldc_abs l
  have h5 := ht.len
  have h6 := ht.clen
  have h7 := ht.cabs
  have h8 := nrm_len (heldc l')
  have h9 := heldc_len l'
  have sl : small (heldc l) := heldc_small (by omega)
  have sl' : small (heldc l') := heldc_small (by omega)
  have sm : small (nrm (heldc l) ++ c) := ⟨by rw [List.length_append]; omega, by rw [absum_app]; omega⟩
  have h22 : m_telltalelaw28_TokenSums_j22 (nrm (heldc l')) (i : Int) (ownB l') k = some true := by
    refine l23_ok (by omega) (fun x hx => ?_) hk
    have q1 := strict_at (nrm_norm (heldc l')).1 hx
    rw [nrm_at] at q1
    have q2 := heldc_nn (l := l') x.Loc x.Time
    have q3 := (nrm_norm (heldc l')).2 x hx
    omega
  have h11 : m_telltalelaw28_TokenSums_j11 p0 (nrm (heldc l)) (i : Int) (ownB l') c e id k = some true := by
    unfold m_telltalelaw28_TokenSums_j11
    rw [merge_ok sm, obind_some, hn, tallyb_ok (by omega), obind_some, tsame_ok (by omega) (by omega), obind_some, decide_eq_true rfl, Bool.not_true, cond_false, geti_lt hi, obind_some]
    by_cases hK : ((p0[i].Kind.toNat : Nat) : Int) ≠ 0
    · rw [decide_eq_true hK, cond_true, drops_ok (smallN sl) (smallN sl'), obind_some, drops_no (fun k => by rw [frn_congr (nrm_at (heldc l)), frn_congr (nrm_at (heldc l'))]; exact hfr hK k), cond_false]
      exact h14 h22
    · rw [decide_eq_false hK, cond_false]
      exact h14 h22
  unfold m_telltalelaw28_TokenSums_j9
  by_cases h0 : e ≠ 0
  · obtain ⟨rfl, rfl⟩ := he h0
    rw [decide_eq_true h0, cond_true, bsame_ok (by omega) (by omega), obind_some, decide_eq_true rfl, Bool.not_true, cond_false, decide_eq_false (by simp), cond_false]
    exact h11
  · rw [decide_eq_false h0, cond_false]; exact h11
theorem hold_err {l : List GLeave} {A B : Int} (h : (holdL l A B).2.2.2 ≠ 0) : (holdL l A B).1 = l ∧ (holdL l A B).2.2.1 = [] := by
  unfold holdL at h ⊢
  split at h
  · rename_i h1
    rw [if_pos h1]
    split at h
    · rename_i h2; rw [if_pos h2]; exact ⟨rfl, rfl⟩
    · exact absurd rfl h
  · rename_i h1
    rw [if_neg h1]; exact ⟨rfl, rfl⟩
theorem hold_fine {l : List GLeave} {A B : Int} (h : (holdL l A B).2.2.2 = 0) : holdL l A B = (l ++ [⟨A, B, true⟩], (l.length : Int), [⟨A, B, 1⟩], 0) ∧ 0 ≤ B ∧ B ≤ 1099511627776 := by
  unfold holdL at h ⊢
  split at h
  · rename_i h1
    rw [if_pos h1]
    unfold mayP at h1
    simp only [Bool.and_eq_true, decide_eq_true_eq] at h1
    split at h
    · cases h
    · rename_i h2; rw [if_neg h2]; exact ⟨rfl, h1.2⟩
  · cases h
theorem lower_err {l : List GLeave} {A B : Int} (h : (lowerL l A B).2.2 ≠ 0) : (lowerL l A B).1 = l ∧ (lowerL l A B).2.1 = [] := by
  unfold lowerL at h ⊢
  by_cases h0 : A < 0 ∨ (l.length : Int) ≤ A
  · rw [if_pos h0]; exact ⟨rfl, rfl⟩
  · obtain ⟨i, rfl, hi, hg⟩ := get_in (l := l) (A := A) (by omega)
    rw [if_neg h0, hg] at h ⊢
    simp only [] at h ⊢
    by_cases h1 : l[i].Held = false
    · rw [if_pos h1]; exact ⟨rfl, rfl⟩
    · rw [if_neg h1] at h ⊢
      by_cases h2 : 1099511627776 < B ∨ B < l[i].Time
      · rw [if_pos h2]; exact ⟨rfl, rfl⟩
      · rw [if_neg h2] at h; exact absurd rfl h
theorem drop_err {l : List GLeave} {A : Int} (h : (dropL l A).2.2 ≠ 0) : (dropL l A).1 = l ∧ (dropL l A).2.1 = [] := by
  unfold dropL at h ⊢
  by_cases h0 : A < 0 ∨ (l.length : Int) ≤ A
  · rw [if_pos h0]; exact ⟨rfl, rfl⟩
  · obtain ⟨i, rfl, hi, hg⟩ := get_in (l := l) (A := A) (by omega)
    rw [if_neg h0, hg] at h ⊢
    simp only [] at h ⊢
    by_cases h1 : l[i].Held = false
    · rw [if_pos h1]; exact ⟨rfl, rfl⟩
    · rw [if_neg h1] at h; exact absurd rfl h
theorem get_some (l : List GLeave) (A : Int) : ∃ z, m_token_Book_Get (ownB l) A = some z := by
  by_cases h : A < 0 ∨ (l.length : Int) ≤ A
  · exact ⟨_, getb_out h⟩
  · obtain ⟨i, rfl, hi, hg⟩ := get_in (l := l) (A := A) (by omega)
    exact ⟨_, getb_in hi⟩
theorem main_TokenSums (p0 : List GTurn) (h0 : wfL wf_GTurn p0) : m_telltalelaw28_TokenSums p0 = some true := by
  unfold m_telltalelaw28_TokenSums
  rw [awk28s]
  by_cases l0 : 40 < p0.length
  · rw [d_lt (by omega), cond_true]; rfl
  rw [d_nlt (by omega), cond_false]
  have key : ∀ (n fu i : Nat) (l : List GLeave), i + n = p0.length → n < fu → l.length ≤ i → m_telltalelaw28_TokenSums_l2 p0 fu (ownB l) (nrm (heldc l)) (i : Int) = some true := by
    intro n
    induction n with
    | zero =>
      intro fu i l hn hf hl
      obtain ⟨fu, rfl⟩ : ∃ k, fu = k + 1 := ⟨fu - 1, by omega⟩
      unfold m_telltalelaw28_TokenSums_l2
      rw [d_nlt (by omega), cond_false, awk28s]; rfl
    | succ n ih =>
      intro fu i l hn hf hl
      obtain ⟨fu, rfl⟩ : ∃ k, fu = k + 1 := ⟨fu - 1, by omega⟩
      have hi : i < p0.length := by omega
      have nextk : ∀ l' : List GLeave, l'.length ≤ l.length + 1 → (fun y3_d_2 y4_2 y5_2 => m_telltalelaw28_TokenSums_l2 p0 fu y3_d_2 y4_2 y5_2) (ownB l') (nrm (heldc l')) (IntKind.i64.wrap ((i : Int) + 1)) = some true := fun l' hl' => by
        show m_telltalelaw28_TokenSums_l2 p0 fu (ownB l') (nrm (heldc l')) (IntKind.i64.wrap ((i : Int) + 1)) = some true
        rw [inc_ok (by omega)]
        exact ih fu (i + 1) l' (by omega) (by omega) (by omega)
      unfold m_telltalelaw28_TokenSums_l2
      rw [d_lt (by omega), cond_true, geti_lt hi, obind_some]
      by_cases k0 : ((p0[i].Kind.toNat : Nat) : Int) = 0
      · rw [decide_eq_true k0, cond_true, obind_some, obind_some, hold_ok (by omega), obind_some]
        have ht := hold_turn l p0[i].A p0[i].B
        refine turn_ok hi (by omega) ht hold_err (fun h => absurd k0 h) (nextk _ ht.len) fun h22 => ?_
        by_cases he : (holdL l p0[i].A p0[i].B).2.2.2 = 0
        · obtain ⟨e, b1, b2⟩ := hold_fine he
          rw [e] at h22 ⊢
          have hg := getb_in (l := l ++ [⟨p0[i].A, p0[i].B, true⟩]) (i := l.length) (by simp)
          have hx : (l ++ [(⟨p0[i].A, p0[i].B, true⟩ : GLeave)])[l.length]'(by simp) = ⟨p0[i].A, p0[i].B, true⟩ := by simp
          rw [hx] at hg
          have hm := mayb_ok (l := l ++ [⟨p0[i].A, p0[i].B, true⟩]) (by simp; omega) p0[i].A p0[i].B
          rw [show mayL (l ++ [⟨p0[i].A, p0[i].B, true⟩]) p0[i].A p0[i].B = true by simp [mayL]] at hm
          refine l15_hold hi k0 rfl rfl (smallN (heldc_small (by simp; omega))) (smallN (heldc_small (by omega))) rfl (fun k hk => ?_) hg hm h22
          rw [frn_congr (nrm_at _), frn_congr (nrm_at (heldc l))] at hk
          rw [frn_congr (nrm_at _)]
          simp only [heldc_app] at hk ⊢
          have e3 : heldc [(⟨p0[i].A, p0[i].B, true⟩ : GLeave)] = [⟨p0[i].A, p0[i].B, 1⟩] := rfl
          rw [e3, frn_more (fun p t => heldc_nn p t) b1 (by omega)] at hk ⊢
          by_cases hL : leads p0[i].A k = true
          · rw [if_pos hL] at hk ⊢; exact ⟨by omega, hL⟩
          · rw [if_neg hL] at hk; omega
        · exact l15_other hi (get_some _ _) (fun h => he h.1) h22
      · rw [decide_eq_false k0, cond_false, obind_some]
        by_cases k1 : ((p0[i].Kind.toNat : Nat) : Int) = 1
        · rw [decide_eq_true k1, cond_true, obind_some, obind_some, lower_ok (by omega), obind_some]
          obtain ⟨ht, hfr⟩ := lower_turn l p0[i].A p0[i].B
          exact turn_ok hi (by omega) ht lower_err (fun _ => hfr) (nextk _ ht.len) fun h22 => l15_other hi (get_some _ _) (fun h => k0 h.2) h22
        · rw [decide_eq_false k1, cond_false, obind_some, drop_ok (by omega), obind_some]
          obtain ⟨ht, hfr⟩ := drop_turn l p0[i].A
          exact turn_ok hi (by omega) ht drop_err (fun _ => hfr) (nextk _ ht.len) fun h22 => l15_other hi (get_some _ _) (fun h => k0 h.2) h22
  exact key p0.length 1152921504606846976 0 [] (by omega) (by omega) (Nat.le_refl _)
end Go.Proofs.Ytkamekhkkkeedaa.K
