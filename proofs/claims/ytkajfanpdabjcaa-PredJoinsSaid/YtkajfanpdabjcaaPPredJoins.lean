/- PredJoins by models. -/
import Derived.Test.YtkajfanpdabjcaaPPredTrees
namespace Go.Proofs.Ytkajfanpdabjcaa.K
open Go.RowKit Go.Lib
set_option linter.unusedVariables false
set_option linter.unusedSimpArgs false
def nAnd : GNode_ := GNode_.mk 1 0 ([] : List UInt8) ([] : List UInt8) (GValue.mk 0 0 0 ([] : List UInt8))
def nNot : GNode_ := GNode_.mk 3 0 ([] : List UInt8) ([] : List UInt8) (GValue.mk 0 0 0 ([] : List UInt8))
theorem b3 (m : GNode_) : decide (bndK m < 3) = (decide (((m.Kind.toNat : Nat) : Int) = 2) || decide (((m.Kind.toNat : Nat) : Int) = 1)) := by
  rw [← Bool.decide_or]
  exact decide_eq_decide.2 (by
    have : nK m = m.Kind.toNat := rfl
    unfold bndK; split <;> (try split) <;> omega)
theorem b2 (m : GNode_) : decide (bndK m < 2) = decide (((m.Kind.toNat : Nat) : Int) = 2) := decide_eq_decide.2 (by
  have : nK m = m.Kind.toNat := rfl
  unfold bndK; split <;> (try split) <;> omega)
theorem and_ok {t u : PT} (ht : t.ok 16 0) (hu : u.ok 16 0) (h1 : t.flat.length ≤ 14) (h2 : u.flat.length ≤ 14) : (PT.two nAnd t u).ok 16 0 :=
  ⟨rfl, by decide, rfl, PT.ok_up (d := t.flat.length) (e := 15) (by omega) (PT.ok_size ht), PT.ok_up (d := u.flat.length) (e := 15) (by omega) (PT.ok_size hu)⟩
theorem not_ok {t : PT} (ht : t.ok 16 0) (h1 : t.flat.length ≤ 14) : (PT.one nNot t).ok 16 0 :=
  ⟨rfl, by decide, rfl, PT.ok_up (d := t.flat.length) (e := 15) (by omega) (PT.ok_size ht)⟩
theorem nS_cons {n : GNode_} {l : List GNode_} (h : u64B n.Val.Bits ∧ n.Name.length ≤ 40 ∧ n.Var.length ≤ 40) (hl : nS l) : nS (n :: l) := fun m hm => by
  rcases List.mem_cons.1 hm with rfl | hm
  · exact h
  · exact hl m hm
theorem nS_app {a b : List GNode_} (ha : nS a) (hb : nS b) : nS (a ++ b) := fun m hm => by
  rcases List.mem_append.1 hm with hm | hm
  · exact ha m hm
  · exact hb m hm
theorem main_PredJoins (x y : List GNode_) (hx : (wfL wf_GNode_) x) (hy : (wfL wf_GNode_) y) : m_telltalelaw11_PredJoins x y = some true := by
  unfold m_telltalelaw11_PredJoins m_telltalelaw11_PredJoins_j1 m_telltalelaw11_PredJoins_j6
  obtain ⟨r0, e0, q0⟩ := over_ok (l := x) hx.2
  rw [e0, obind_some, awake_ok]
  rcases q0 with rfl | ⟨rfl, q0⟩
  · rfl
  rw [d_nlt (by decide), cond_false]
  obtain ⟨r1, e1, q1⟩ := over_ok (l := y) hy.2
  rw [e1, obind_some]
  rcases q1 with rfl | ⟨rfl, q1⟩
  · rfl
  rw [d_nlt (by decide), cond_false]
  by_cases hx14 : 14 < x.length
  · rw [d_lt (by omega), cond_true]; rfl
  rw [d_nlt (by omega), cond_false]
  by_cases hy14 : 14 < y.length
  · rw [d_lt (by omega), cond_true]; rfl
  rw [d_nlt (by omega), cond_false, own_ok (by omega), obind_some, own_ok (by omega), obind_some]
  by_cases hx0 : x = []
  · subst hx0; rfl
  have : x.length ≠ 0 := fun e => hx0 (List.eq_nil_of_length_eq_zero e)
  rw [decide_eq_false (by omega), cond_false]
  by_cases hy0 : y = []
  · subst hy0; rfl
  have : y.length ≠ 0 := fun e => hy0 (List.eq_nil_of_length_eq_zero e)
  rw [decide_eq_false (by omega), cond_false, pcheck_ok (nB_of q0.1 q0.2), obind_some]
  by_cases cx : ¬ chkT x = 0
  · rw [decide_eq_true cx]; rfl
  have cx := Decidable.not_not.1 cx
  rw [decide_eq_false (by simp [cx]), cond_false, pcheck_ok (nB_of q1.1 q1.2), obind_some]
  by_cases cy : ¬ chkT y = 0
  · rw [decide_eq_true cy]; rfl
  have cy := Decidable.not_not.1 cy
  rw [decide_eq_false (by simp [cy]), cond_false, app_ok (by simp; omega), obind_some, app_ok (by simp; omega), obind_some, app_ok (by simp; omega), obind_some]
  rcases chkT_tree cx with h0 | ⟨t, rfl, ht, _⟩
  · exact absurd h0 hx0
  rcases chkT_tree cy with h0 | ⟨u, rfl, hu, _⟩
  · exact absurd h0 hy0
  have st := str_len q0.2
  have su := str_len q1.2
  have nA : nS (PT.two nAnd t u).flat := nS_cons ⟨⟨by decide, by decide⟩, by decide, by decide⟩ (nS_app q0.2 q1.2)
  have nN : nS (PT.one nNot t).flat := nS_cons ⟨⟨by decide, by decide⟩, by decide, by decide⟩ q0.2
  have lA : (PT.two nAnd t u).flat.length ≤ 30 := by simp [PT.flat]; omega
  have lN : (PT.one nNot t).flat.length ≤ 30 := by simp [PT.flat]; omega
  have oA := and_ok ht hu (by omega) (by omega)
  have oN := not_ok ht (by omega)
  obtain ⟨rt, et⟩ := t.flat_cons
  obtain ⟨ru, eu⟩ := u.flat_cons
  have gt : geti t.flat 0 = some t.nd := by rw [et]; rfl
  have gu : geti u.flat 0 = some u.nd := by rw [eu]; rfl
  have pt : ∀ b, (par b t.str).length ≤ 20000 := fun b => by have := par_len b t.str; omega
  have pu : ∀ b, (par b u.str).length ≤ 20000 := fun b => by have := par_len b u.str; omega
  rw [print_tree ht (by omega) q0.2, obind_some, print_tree hu (by omega) q1.2, obind_some, gt, obind_some]
  rw [show ([(GNode_.mk 1 0 ([] : List UInt8) ([] : List UInt8) (GValue.mk 0 0 0 ([] : List UInt8)))] : List GNode_) ++ t.flat ++ u.flat = (PT.two nAnd t u).flat from by rw [List.append_assoc]; rfl, show ([(GNode_.mk 3 0 ([] : List UInt8) ([] : List UInt8) (GValue.mk 0 0 0 ([] : List UInt8)))] : List GNode_) ++ t.flat = (PT.one nNot t).flat from rfl]
  have j22 : m_telltalelaw11_PredJoins_j22 (PT.two nAnd t u).flat (PT.one nNot t).flat (par (decide (bndK u.nd < 3)) u.str) (par (decide (bndK t.nd < 2)) t.str) (par (decide (bndK t.nd < 3)) t.str) = some true := by
    unfold m_telltalelaw11_PredJoins_j22
    have a1 := pt (decide (bndK t.nd < 2))
    have a2 := pt (decide (bndK t.nd < 3))
    have a3 := pu (decide (bndK u.nd < 3))
    rw [pcheck_ok (nB_of (by omega) nA), obind_some, chkT_of oA lA, decide_eq_true rfl, cond_true, print_tree oA lA nA, obind_some, app_ok (by simp; omega), obind_some, app_ok (by simp; omega), obind_some, decide_eq_true (by
      show par (decide (bndK t.nd < 2)) t.str ++ [32] ++ [97, 110, 100] ++ [32] ++ par (decide (bndK u.nd < 3)) u.str = _
      simp), cond_true, pcheck_ok (nB_of (by omega) nN), obind_some, chkT_of oN lN, decide_eq_true rfl, cond_true, print_tree oN lN nN, obind_some, app_ok (by simp; omega), obind_some, decide_eq_true (by rfl), cond_true, awake_ok]
    rfl
  have j18 : ∀ y10 y9, m_telltalelaw11_PredJoins_j22 (PT.two nAnd t u).flat (PT.one nNot t).flat y10 y9 (par (decide (bndK t.nd < 3)) t.str) = some true → m_telltalelaw11_PredJoins_j18 (PT.two nAnd t u).flat (PT.one nNot t).flat t.flat t.str y9 y10 = some true := fun y10 y9 h => by
    unfold m_telltalelaw11_PredJoins_j18
    rw [b3] at h
    rw [gt, obind_some, obind_some, app_ok (by simp; omega), obind_some, app_ok (by simp; omega), obind_some]
    cases hk : decide (((t.nd.Kind.toNat : Nat) : Int) = 2) with
    | true => rw [hk] at h; exact h
    | false =>
      cases hk1 : decide (((t.nd.Kind.toNat : Nat) : Int) = 1) with
      | true => rw [hk, hk1] at h; exact h
      | false => rw [hk, hk1] at h; exact h
  have j14 : ∀ y9, m_telltalelaw11_PredJoins_j18 (PT.two nAnd t u).flat (PT.one nNot t).flat t.flat t.str y9 (par (decide (bndK u.nd < 3)) u.str) = some true → m_telltalelaw11_PredJoins_j14 (PT.two nAnd t u).flat (PT.one nNot t).flat t.flat u.flat t.str u.str y9 = some true := fun y9 h => by
    unfold m_telltalelaw11_PredJoins_j14
    rw [b3] at h
    rw [gu, obind_some, obind_some, app_ok (by simp; omega), obind_some, app_ok (by simp; omega), obind_some]
    cases hk : decide (((u.nd.Kind.toNat : Nat) : Int) = 2) with
    | true => rw [hk] at h; exact h
    | false =>
      cases hk1 : decide (((u.nd.Kind.toNat : Nat) : Int) = 1) with
      | true => rw [hk, hk1] at h; exact h
      | false => rw [hk, hk1] at h; exact h
  have hf := j14 _ (j18 _ _ j22)
  rw [b2] at hf
  rw [app_ok (by simp; omega), obind_some, app_ok (by simp; omega), obind_some]
  cases hk : decide (((t.nd.Kind.toNat : Nat) : Int) = 2) with
  | true => rw [hk] at hf; exact hf
  | false => rw [hk] at hf; exact hf
end Go.Proofs.Ytkajfanpdabjcaa.K
