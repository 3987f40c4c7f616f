/- FrontMeets: plain. -/
import Derived.Test.YthcilaomjkaciaaPfrp
import Derived.Test.YthcilaomjkaciaaPfrm
import Derived.Test.YthcilaomjkaciaaPtlo
namespace Go.Proofs.Ythcilaomjkaciaa.K
open Go.RowKit Go.Lib
set_option linter.unusedVariables false
set_option linter.unusedSimpArgs false
theorem awk27m : m_telltalelaw27_awake = some true := by decide +kernel
theorem geti4 (f : Int → Int) {i : Nat} (h : i < 4) : geti [f 0, f 1, f 2, f 3] (i : Int) = some (f (i : Int)) := by
  have : i = 0 ∨ i = 1 ∨ i = 2 ∨ i = 3 := by omega
  rcases this with rfl | rfl | rfl | rfl <;> rfl
theorem geti_all (l : List GChange) {i : Nat} (h : i < 4) : geti [(frnAll l).a0, (frnAll l).a1, (frnAll l).a2, (frnAll l).a3] (i : Int) = some (frn l (i : Int)) := geti4 (frn l) h
theorem meets_l5 {p0 : GArr2_List_GChange} {i : Int} {k : Int → Option Bool} {L : List GChange} (hL : geti [p0.a0, p0.a1] i = some L) (hl : L.length ≤ 1000000) :
    m_telltalelaw27_FrontMeets_l5 p0 i k 1152921504606846976 0 = some true ∨ ((∀ x ∈ L, 0 ≤ x.N) ∧ m_telltalelaw27_FrontMeets_l5 p0 i k 1152921504606846976 0 = k (IntKind.i64.wrap (i + 1))) := by
  have := loop1_0 (L := fun fu j => m_telltalelaw27_FrontMeets_l5 p0 i k fu j) (n := L.length) (P := fun j o => o = some true ∨ ((∀ x ∈ L.drop j, 0 ≤ x.N) ∧ o = k (IntKind.i64.wrap (i + 1)))) (by omega)
    (fun fu => by
      unfold m_telltalelaw27_FrontMeets_l5
      rw [hL, obind_some, d_nlt (by omega), cond_false]
      exact .inr ⟨by simp, rfl⟩)
    (fun fu j hj ih => by
      unfold m_telltalelaw27_FrontMeets_l5
      rw [hL, obind_some, d_lt (by omega), cond_true, obind_some, geti_lt hj, obind_some]
      by_cases h : L[j].N < 0
      · rw [d_lt h, cond_true, awk27m]; exact .inl rfl
      · rw [d_nlt h, cond_false, inc_ok (by omega)]
        refine ih.imp id fun ⟨q, e⟩ => ⟨fun x hx => ?_, e⟩
        rw [drop_cons hj] at hx
        rcases List.mem_cons.1 hx with rfl | hx
        · omega
        · exact q x hx)
  simpa using this
theorem meets_l12 {p1 : GChange} {A B : List GChange} {X Y Z M : GArr4_Int} (sa : small A) (sab : small (A ++ B)) (zA : ∀ a b, 0 ≤ atp A a b) (hX : ∀ i : Nat, i < 4 → geti [X.a0, X.a1, X.a2, X.a3] (i : Int) = some (frn A (i : Int))) (hY : ∀ i : Nat, i < 4 → geti [Y.a0, Y.a1, Y.a2, Y.a3] (i : Int) = some (frn B (i : Int)))
    (hZ : ∀ i : Nat, i < 4 → geti [Z.a0, Z.a1, Z.a2, Z.a3] (i : Int) = some (frn (nrm (A ++ B)) (i : Int))) (hM : ∀ i : Nat, i < 4 → geti [M.a0, M.a1, M.a2, M.a3] (i : Int) = some (frn (nrm (A ++ [⟨p1.Loc, p1.Time, 1⟩])) (i : Int)))
    (fz : ∀ k, frn (nrm (A ++ B)) k = min (frn A k) (frn B k)) (fm : ∀ k, frn (nrm (A ++ [⟨p1.Loc, p1.Time, 1⟩])) k = if leads p1.Loc k = true then min (frn A k) p1.Time else frn A k) (sn : ∀ {l : List GChange}, small l → small (nrm l)) :
    m_telltalelaw27_FrontMeets_l12 p1 A B X Y Z M 1152921504606846976 0 = some true := by
  have key := loop1_0 (L := fun fu i => m_telltalelaw27_FrontMeets_l12 p1 A B X Y Z M fu i) (n := 4) (P := fun i o => o = some true) (by omega) (fun fu => by
      unfold m_telltalelaw27_FrontMeets_l12
      rw [decide_eq_false (by omega), cond_false, merge_ok sab, obind_some, drops_ok (sn sab) sa, obind_some]
      have d1 : dropsB (nrm (A ++ B)) A = false := by
        cases h : dropsB (nrm (A ++ B)) A with
        | false => rfl
        | true =>
          obtain ⟨k, _, _, h⟩ := dropsB_iff.1 h
          rw [fz] at h; omega
      have d2 : dropsB A (nrm (negl (nrm (negl A)))) = false := by
        cases h : dropsB A (nrm (negl (nrm (negl A)))) with
        | false => rfl
        | true =>
          obtain ⟨k, _, _, h⟩ := dropsB_iff.1 h
          rw [frn_congr (r := A) (fun a b => by rw [nrm_at, negl_at, nrm_at, negl_at]; omega)] at h; omega
      rw [d1, Bool.not_false, cond_true, neg_ok sa, obind_some, neg_ok (sn (negl_small sa)), obind_some, drops_ok sa (sn (negl_small (sn (negl_small sa)))), obind_some, d2, Bool.not_false, cond_true, awk27m]; rfl
    ) (fun fu i hi ih => by
      unfold m_telltalelaw27_FrontMeets_l12
      have r1 := (frn_spec A (i : Int)).1
      have j17 : ∀ y, y = frn (nrm (A ++ [⟨p1.Loc, p1.Time, 1⟩])) (i : Int) → m_telltalelaw27_FrontMeets_j17 p1 A X M (i : Int) (fun y13_12 => m_telltalelaw27_FrontMeets_l12 p1 A B X Y Z M fu y13_12) y = some true := fun y hy => by
        unfold m_telltalelaw27_FrontMeets_j17
        rw [hM i hi, obind_some, decide_eq_false (fun h => h hy.symm), cond_false, passed_ok sa, obind_some, hX i hi, obind_some, decide_eq_false (fun h => h rfl), cond_false, inc_ok (by omega)]
        exact ih
      have j19 : m_telltalelaw27_FrontMeets_j19 p1 A X M (i : Int) (fun y13_12 => m_telltalelaw27_FrontMeets_l12 p1 A B X Y Z M fu y13_12) = some true := by
        unfold m_telltalelaw27_FrontMeets_j19
        rw [hX i hi, obind_some, leads_ok, obind_some]
        by_cases h : leads p1.Loc (i : Int) = true
        · rw [h, cond_true]; exact j17 _ (by rw [fm, if_pos h])
        · have h' : leads p1.Loc (i : Int) = false := by simpa using h
          rw [h', cond_false]; exact j17 _ (by rw [fm, if_neg h])
      rw [decide_eq_true (by omega), cond_true, hZ i hi, obind_some, hX i hi, obind_some, hY i hi, obind_some, fz, decide_eq_false (fun h => h rfl), cond_false, obind_some, d_nlt (by omega), cond_false, obind_some, d_nlt (by omega), cond_false]
      by_cases h : 0 < i
      · rw [d_lt (by omega), cond_true, obind_some, w64 (by omega) (by omega), show (i : Int) - 1 = ((i - 1 : Nat) : Int) by omega, hX (i - 1) (by omega), obind_some, d_nlt (by have := frn_mono A (j := ((i - 1 : Nat) : Int)) (k := (i : Int)) (by omega) (by omega); omega), cond_false]
        exact j19
      · rw [d_nlt (by omega), cond_false]
        exact j19
    )
  exact key
theorem main_FrontMeets (p0 : GArr2_List_GChange) (p1 : GChange) (h0 : wf_GArr2_List_GChange p0) (h1 : wf_GChange p1) : m_telltalelaw27_FrontMeets p0 p1 = some true := by
  have aw : m_telltalelaw27_FrontMeets_j1 = some true := by unfold m_telltalelaw27_FrontMeets_j1; rw [awk27m]; rfl
  unfold m_telltalelaw27_FrontMeets
  rw [aw, awk27m]
  obtain ⟨r, e, q⟩ := tover_ok h0.a0.1
  rw [e, obind_some]
  rcases q with rfl | ⟨rfl, l0, b0⟩
  · rw [decide_eq_true (by omega), cond_true]
  rw [decide_eq_false (by omega), cond_false]
  obtain ⟨r, e, q⟩ := tover_ok h0.a1.1
  rw [e, obind_some]
  rcases q with rfl | ⟨rfl, l1, b1⟩
  · rw [decide_eq_true (by omega), cond_true]
  rw [decide_eq_false (by omega), cond_false]
  by_cases c1 : p1.Loc < 0
  · rw [d_lt c1, cond_true]
  rw [d_nlt c1, cond_false]
  by_cases c2 : 3 < p1.Loc
  · rw [d_lt c2, cond_true]
  rw [d_nlt c2, cond_false]
  by_cases c3 : p1.Time < 0
  · rw [d_lt c3, cond_true]
  rw [d_nlt c3, cond_false]
  by_cases c4 : 1099511627777 < p1.Time
  · rw [d_lt c4, cond_true]; rfl
  rw [d_nlt c4, cond_false]
  generalize hA : p0.a0 = A at *
  generalize hB : p0.a1 = B at *
  show m_telltalelaw27_FrontMeets_l4 p0 p1 (1152921504606846973 + 1 + 1 + 1) 0 = _
  have e1 : IntKind.i64.wrap (0 + 1) = 1 := w64 (by omega) (by omega)
  have e2 : IntKind.i64.wrap (1 + 1) = 2 := w64 (by omega) (by omega)
  unfold m_telltalelaw27_FrontMeets_l4
  rw [decide_eq_true (by omega), cond_true]
  rcases meets_l5 (p0 := p0) (i := 0) (k := fun y5_4 => m_telltalelaw27_FrontMeets_l4 p0 p1 (1152921504606846973 + 1 + 1) y5_4) (L := A) (by rw [hA]; rfl) (by omega) with h | ⟨nA, h⟩
  · exact h
  refine h.trans ?_
  show m_telltalelaw27_FrontMeets_l4 p0 p1 (1152921504606846973 + 1 + 1) _ = _
  rw [e1]
  unfold m_telltalelaw27_FrontMeets_l4
  rw [decide_eq_true (by omega), cond_true]
  rcases meets_l5 (p0 := p0) (i := 1) (k := fun y5_4 => m_telltalelaw27_FrontMeets_l4 p0 p1 (1152921504606846973 + 1) y5_4) (L := B) (by rw [hA, hB]; rfl) (by omega) with h | ⟨nB, h⟩
  · exact h
  refine h.trans ?_
  show m_telltalelaw27_FrontMeets_l4 p0 p1 (1152921504606846973 + 1) _ = _
  rw [e2]
  unfold m_telltalelaw27_FrontMeets_l4
  rw [decide_eq_false (by omega), cond_false, hA, hB]
  have ca := ch_half l0 b0
  have cb := ch_half l1 b1
  have sa := half_small ca
  have sb := half_small cb
  have sab := small_app ca cb
  have s1 : small (A ++ [⟨p1.Loc, p1.Time, 1⟩]) := small_app ca ⟨by simp, by simp [absum]⟩
  have sn : ∀ {l : List GChange}, small l → small (nrm l) := fun {l} h => ⟨Nat.le_trans (nrm_len l) h.1, Nat.le_trans (nrm_abs l) h.2⟩
  have zA := atp_nn nA
  have zB := atp_nn nB
  rw [town_ok (by omega), obind_some, town_ok (by omega), obind_some, all_ok sa, obind_some, all_ok sb, obind_some, merge_ok sab, obind_some, all_ok (sn sab), obind_some, add_ok s1, obind_some, all_ok (sn s1), obind_some]
  have fz : ∀ k, frn (nrm (A ++ B)) k = min (frn A k) (frn B k) := fun k => by rw [frn_congr (nrm_at _), frn_min zA zB]
  have fm : ∀ k, frn (nrm (A ++ [⟨p1.Loc, p1.Time, 1⟩])) k = if leads p1.Loc k = true then min (frn A k) p1.Time else frn A k := fun k => by rw [frn_congr (nrm_at _), frn_more zA (by omega) (by omega)]
  exact meets_l12 sa sab zA (fun i hi => geti_all _ hi) (fun i hi => geti_all _ hi) (fun i hi => geti_all _ hi) (fun i hi => geti_all _ hi) fz fm sn
end Go.Proofs.Ythcilaomjkaciaa.K
