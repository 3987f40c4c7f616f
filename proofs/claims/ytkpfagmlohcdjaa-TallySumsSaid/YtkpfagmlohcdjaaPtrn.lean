/- The document's Normal: plain. -/
import Derived.Test.YtkpfagmlohcdjaaPtat
namespace Go.Proofs.Ytkpfagmlohcdjaa.K
open Go.RowKit Go.Lib
set_option linter.unusedVariables false
set_option linter.unusedSimpArgs false
theorem before_ok (x y : GChange) : m_telltaleref26_before x y = some (decide (ltT x y)) := by
  unfold m_telltaleref26_before
  by_cases h1 : x.Loc < y.Loc
  · rw [d_lt h1, cond_true, decide_eq_true (ltT_iff.2 (.inl h1))]
  · rw [d_nlt h1, cond_false]
    by_cases h2 : x.Loc = y.Loc
    · rw [decide_eq_true h2, cond_true]
      congr 1
      exact decide_eq_decide.2 ⟨fun h => ltT_iff.2 (.inr ⟨h2, h⟩), fun h => by have := ltT_iff.1 h; omega⟩
    · rw [decide_eq_false h2, cond_false, decide_eq_false (fun h => by have := ltT_iff.1 h; omega)]
/-- One more, if there is none at its point, and something there. -/
def eqH (l : List GChange) (c : GChange) : Bool := match l with | [] => false | t :: _ => !decide (ltT c t)
theorem eqH_nil (c : GChange) : eqH [] c = false := rfl
theorem eqH_cons (t : GChange) (l : List GChange) (c : GChange) : eqH (t :: l) c = !decide (ltT c t) := rfl
def putR (out : List GChange) (c : GChange) : List GChange :=
  if c.N = 0 ∨ eqH (out.dropWhile (fun z => decide (ltT z c))) c = true then out
  else out.takeWhile (fun z => decide (ltT z c)) ++ c :: out.dropWhile (fun z => decide (ltT z c))
theorem ins_ok {out K T : List GChange} {y : Int} (e : out = K ++ T) (hy : y = (K.length : Int)) (hl : out.length ≤ 1000000) {c : GChange} {f : List GChange → Option (List GChange)} :
    (Option.bind (cut out 0 y) fun s => Option.bind (app ([] : List GChange) s) fun a => Option.bind (app a [c]) fun a2 => Option.bind (cut out y ((List.length out : Nat) : Int)) fun s2 => Option.bind (app a2 s2) fun a3 => f a3) = f (K ++ c :: T) := by
  subst e; subst hy
  rw [List.length_append] at hl
  rw [cut_0 (by simp), obind_some, app_ok (by simp; omega), obind_some, app_ok (by simp; omega), obind_some, cut_ok (by simp) (Nat.le_refl _), obind_some, app_ok (by simp; omega), obind_some]
  congr 1
  simp
theorem rn_l3 {x : GChange} {n y4 : Int} {out : List GChange} {k : List GChange → Int → Option (List GChange)} (hl : out.length ≤ 1000000) : ∀ (T K : List GChange) (fu : Nat), out = K ++ T → (∀ z ∈ K, ltT z ⟨x.Loc, x.Time, n⟩) → T.length < fu →
    m_telltaleref26_Normal_l3 n x x out y4 k fu (K.length : Int) = k (putR out ⟨x.Loc, x.Time, n⟩) (IntKind.i64.wrap (y4 + 1))
  | _, _, 0, _, _, h => by omega
  | [], K, fu + 1, e, hK, hf => by
    have hlo : out.length = K.length := by rw [e]; simp
    have hq : ∀ z ∈ K, (fun z => decide (ltT z (⟨x.Loc, x.Time, n⟩ : GChange))) z = true := fun z hz => by simpa using hK z hz
    have tw : out.takeWhile (fun z => decide (ltT z (⟨x.Loc, x.Time, n⟩ : GChange))) = K := by rw [e, List.append_nil]; exact tw_self hq
    have dw : out.dropWhile (fun z => decide (ltT z (⟨x.Loc, x.Time, n⟩ : GChange))) = [] := by rw [e, List.append_nil]; exact dw_nil hq
    unfold m_telltaleref26_Normal_l3
    rw [hlo, d_nlt (by omega), cond_false]
    unfold m_telltaleref26_Normal_j8
    rw [hlo, d_nlt (by omega), cond_false]
    unfold putR
    rw [tw, dw]
    by_cases hn : n = 0
    · rw [decide_eq_false (by omega), cond_false, if_pos (.inl hn)]
    · rw [decide_eq_true hn, cond_true, if_neg (by simp [hn, eqH_nil]), ← hlo]
      exact ins_ok (K := K) (T := []) e (by rw [hlo]) hl
  | t :: T, K, fu + 1, e, hK, hf => by
    have hlo : out.length = K.length + T.length + 1 := by rw [e]; simp; omega
    have g : geti out (K.length : Int) = some t := geti_at e rfl
    unfold m_telltaleref26_Normal_l3
    rw [d_lt (by omega), cond_true, g, obind_some, before_ok, obind_some]
    by_cases h : ltT t ⟨x.Loc, x.Time, n⟩
    · rw [decide_eq_true h, cond_true, inc_ok (by omega)]
      have := rn_l3 (x := x) (n := n) (y4 := y4) (k := k) hl T (K ++ [t]) fu (by rw [e]; simp) (fun z hz => by
        rcases List.mem_append.1 hz with hz | hz
        · exact hK z hz
        · simp at hz; subst hz; exact h) (by simp at hf; omega)
      simpa using this
    · rw [decide_eq_false h, cond_false]
      have hq : ∀ z ∈ K, (fun z => decide (ltT z (⟨x.Loc, x.Time, n⟩ : GChange))) z = true := fun z hz => by simpa using hK z hz
      have hd : decide (ltT t (⟨x.Loc, x.Time, n⟩ : GChange)) = false := decide_eq_false h
      have tw : out.takeWhile (fun z => decide (ltT z (⟨x.Loc, x.Time, n⟩ : GChange))) = K := by
        rw [e, List.takeWhile_append, tw_self hq, if_pos rfl, List.takeWhile_cons, hd]; simp
      have dw : out.dropWhile (fun z => decide (ltT z (⟨x.Loc, x.Time, n⟩ : GChange))) = t :: T := by
        rw [e, List.dropWhile_append, dw_nil hq, List.isEmpty_nil, if_pos rfl, List.dropWhile_cons, hd]; simp
      unfold m_telltaleref26_Normal_j8
      rw [d_lt (by omega), cond_true, g, obind_some, before_ok, obind_some]
      unfold putR
      rw [tw, dw]
      by_cases h2 : ltT (⟨x.Loc, x.Time, n⟩ : GChange) t
      · rw [decide_eq_true h2, Bool.not_true, Bool.not_false, cond_true]
        by_cases hn : n = 0
        · rw [decide_eq_false (by omega), cond_false, if_pos (.inl hn)]
        · rw [decide_eq_true hn, cond_true, if_neg (by simp [hn, h2, eqH_cons])]
          exact ins_ok (K := K) (T := t :: T) e rfl hl
      · rw [decide_eq_false h2, Bool.not_false, Bool.not_true, cond_false, if_pos (.inr (by simp [h2, eqH_cons]))]
/-- What the document's loop keeps. -/
structure RInv (l D out : List GChange) : Prop where
  st : out.Pairwise ltT
  val : ∀ z ∈ out, z.N = atp l z.Loc z.Time ∧ z.N ≠ 0
  all : ∀ y ∈ D, atp l y.Loc y.Time ≠ 0 → ∃ z ∈ out, z.Loc = y.Loc ∧ z.Time = y.Time
  len : out.length ≤ D.length
theorem dropW_ge {out : List GChange} {c : GChange} (h : out.Pairwise ltT) : ∀ z ∈ out.dropWhile (fun z => decide (ltT z c)), ¬ ltT z c := by
  induction out with
  | nil => simp
  | cons t out ih =>
    have h' := List.pairwise_cons.1 h
    intro z hz
    rw [List.dropWhile_cons] at hz
    split at hz
    · exact ih h'.2 z hz
    · rename_i ht
      have ht : ¬ ltT t c := by simpa using ht
      rcases List.mem_cons.1 hz with rfl | hz
      · exact ht
      · have := ltT_iff.1 (h'.1 z hz)
        rw [ltT_iff] at ht ⊢; omega
theorem takeW_lt {out : List GChange} {c : GChange} : ∀ z ∈ out.takeWhile (fun z => decide (ltT z c)), ltT z c := by
  induction out with
  | nil => simp
  | cons t out ih =>
    intro z hz
    rw [List.takeWhile_cons] at hz
    split at hz
    · rename_i ht
      rcases List.mem_cons.1 hz with rfl | hz
      · simpa using ht
      · exact ih z hz
    · simp at hz
theorem putR_inv {l D out : List GChange} {x : GChange} (h : RInv l D out) : RInv l (D ++ [x]) (putR out ⟨x.Loc, x.Time, atp l x.Loc x.Time⟩) := by
  generalize hc : (⟨x.Loc, x.Time, atp l x.Loc x.Time⟩ : GChange) = c
  have c1 : c.Loc = x.Loc := by rw [← hc]
  have c2 : c.Time = x.Time := by rw [← hc]
  have c3 : c.N = atp l x.Loc x.Time := by rw [← hc]
  have eo : out = out.takeWhile (fun z => decide (ltT z c)) ++ out.dropWhile (fun z => decide (ltT z c)) := (List.takeWhile_append_dropWhile).symm
  have ge := dropW_ge (c := c) h.st
  have lt := takeW_lt (out := out) (c := c)
  have hst := h.st
  rw [eo, List.pairwise_append] at hst
  unfold putR
  split
  · rename_i hq
    refine ⟨h.st, h.val, fun y hy hn => ?_, by have := h.len; simp; omega⟩
    rcases List.mem_append.1 hy with hy | hy
    · exact h.all y hy hn
    · simp at hy; subst hy
      rcases hq with hq | hq
      · exact absurd (c3 ▸ hq) hn
      · cases hd : out.dropWhile (fun z => decide (ltT z c)) with
        | nil => rw [hd, eqH_nil] at hq; cases hq
        | cons t T =>
          rw [hd, eqH_cons] at hq
          rw [hd] at ge
          have h1 : ¬ ltT c t := by simpa using hq
          have h2 := ge t (by simp)
          refine ⟨t, by rw [eo, hd]; simp, ?_, ?_⟩ <;> rw [ltT_iff] at h1 h2 <;> omega
  · rename_i hq
    have hn : c.N ≠ 0 := fun e => hq (.inl e)
    have gt : ∀ z ∈ out.dropWhile (fun z => decide (ltT z c)), ltT c z := fun z hz => by
      cases hd : out.dropWhile (fun z => decide (ltT z c)) with
      | nil => rw [hd] at hz; simp at hz
      | cons t T =>
        have h1 : ltT c t := Classical.byContradiction fun hn => hq (.inr (by rw [hd, eqH_cons]; simp [hn]))
        rw [hd] at hz
        rcases List.mem_cons.1 hz with rfl | hz
        · exact h1
        · have h2 := hst.2.1
          rw [hd] at h2
          have := ltT_iff.1 ((List.pairwise_cons.1 h2).1 z hz)
          rw [ltT_iff] at h1 ⊢; omega
    refine ⟨List.pairwise_append.2 ⟨hst.1, List.pairwise_cons.2 ⟨gt, hst.2.1⟩, fun a ha b hb => ?_⟩, fun z hz => ?_, fun y hy hn => ?_, ?_⟩
    · rcases List.mem_cons.1 hb with rfl | hb
      · exact lt a ha
      · exact hst.2.2 a ha b hb
    · rcases List.mem_append.1 hz with hz | hz
      · exact h.val z ((List.takeWhile_sublist _).subset hz)
      · rcases List.mem_cons.1 hz with rfl | hz
        · exact ⟨by rw [c1, c2, c3], hn⟩
        · exact h.val z ((List.dropWhile_sublist _).subset hz)
    · rcases List.mem_append.1 hy with hy | hy
      · obtain ⟨z, hz, e⟩ := h.all y hy hn
        refine ⟨z, ?_, e⟩
        rw [eo] at hz
        rcases List.mem_append.1 hz with hz | hz <;> simp [hz]
      · simp at hy; subst hy
        exact ⟨c, by simp, c1, c2⟩
    · have := congrArg List.length eo
      have hl := h.len
      simp only [List.length_append, List.length_cons, List.length_nil] at this ⊢; omega
theorem rnormal_ok {l : List GChange} (h : small l) : m_telltaleref26_Normal l = some (nrm l) := by
  unfold m_telltaleref26_Normal
  have hs := h.1
  have key : ∀ (R D out : List GChange) (fu : Nat), l = D ++ R → R.length < fu → RInv l D out → ∃ t, m_telltaleref26_Normal_l0 l fu out (D.length : Int) = some t ∧ RInv l l t := by
    intro R
    induction R with
    | nil =>
      intro D out fu e hf hi
      obtain ⟨fu, rfl⟩ : ∃ k, fu = k + 1 := ⟨fu - 1, by omega⟩
      have hD : l = D := by rw [e, List.append_nil]
      subst hD
      unfold m_telltaleref26_Normal_l0
      rw [d_nlt (by omega), cond_false]
      exact ⟨out, rfl, hi⟩
    | cons x R ih =>
      intro D out fu e hf hi
      obtain ⟨fu, rfl⟩ : ∃ k, fu = k + 1 := ⟨fu - 1, by omega⟩
      have hlD : l.length = D.length + R.length + 1 := by rw [e]; simp; omega
      have g : geti l (D.length : Int) = some x := geti_at e rfl
      have hol := hi.len
      unfold m_telltaleref26_Normal_l0
      rw [d_lt (by omega), cond_true, g, obind_some, obind_some, obind_some, obind_some, rat_ok h, obind_some]
      have h3 := rn_l3 (x := x) (n := atp l x.Loc x.Time) (y4 := (D.length : Int)) (out := out) (k := fun y3_0 y4_0 => m_telltaleref26_Normal_l0 l fu y3_0 y4_0) (by omega) out [] 1152921504606846976 rfl (by simp) (by omega)
      have e0 : ((([] : List GChange).length : Nat) : Int) = 0 := rfl
      rw [e0] at h3
      rw [h3, inc_ok (by omega)]
      have := ih (D ++ [x]) _ fu (by rw [e]; simp) (by simp at hf; omega) (putR_inv (x := x) hi)
      simpa using this
  obtain ⟨t, t1, t2⟩ := key l [] [] 1152921504606846976 rfl (by omega) ⟨List.Pairwise.nil, by simp, by simp, by simp⟩
  have e0 : ((([] : List GChange).length : Nat) : Int) = 0 := rfl
  rw [e0] at t1
  rw [t1]
  congr 1
  refine (nrm_eq ⟨t2.st, fun z hz => (t2.val z hz).2⟩ fun a b => ?_).symm
  by_cases hz : ∃ z ∈ t, z.Loc = a ∧ z.Time = b
  · obtain ⟨z, hz, rfl, rfl⟩ := hz
    rw [strict_at t2.st hz]; exact (t2.val z hz).1
  · rw [atp_none fun z hzt e => hz ⟨z, hzt, e⟩]
    refine Classical.byContradiction fun hn => ?_
    have hne : atp l a b ≠ 0 := fun e => hn e.symm
    have : ∃ y ∈ l, y.Loc = a ∧ y.Time = b := Classical.byContradiction fun hq => hne (atp_none fun y hy e => hq ⟨y, hy, e⟩)
    obtain ⟨y, hy, rfl, rfl⟩ := this
    obtain ⟨z, hzt, e⟩ := t2.all y hy hne
    exact hz ⟨z, hzt, e⟩
end Go.Proofs.Ytkpfagmlohcdjaa.K
