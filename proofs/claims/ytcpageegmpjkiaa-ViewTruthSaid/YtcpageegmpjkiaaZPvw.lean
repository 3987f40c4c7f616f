/- A net's turns: plain. -/
import Derived.Test.YtcpageegmpjkiaaZB1
import Derived.Test.YtcpageegmpjkiaaZLM
set_option linter.unusedVariables false
set_option linter.unusedSimpArgs false
namespace Go.Proofs.Ytcpageegmpjkiaa.K
open Go.RowKit Go.Lib
abbrev Lks := List (GArr2_Int × List (List GChange))
theorem concatN_ok {ls : List (List GChange)} (h : ls.flatten.length ≤ 1000000) (hn : ls.length ≤ 1000000) : m_slices_Concat_Change ls = some ls.flatten := by
  have tk : ∀ i (hi : i < ls.length), (ls.take (i + 1)).flatten = (ls.take i).flatten ++ ls[i] := fun i hi => by rw [take_snoc hi, List.flatten_append]; simp
  have le : ∀ i, (ls.take i).flatten.length ≤ ls.flatten.length := fun i => by
    have := congrArg List.length (congrArg List.flatten (List.take_append_drop i ls))
    rw [List.flatten_append, List.length_append] at this; omega
  have l6 : m_slices_Concat_Change_l6 ls 1152921504606846976 [] 0 = some ls.flatten := by
    have := loopG_0 (L := fun fu s i => m_slices_Concat_Change_l6 ls fu s i) (n := ls.length) (P := fun i s o => s = (ls.take i).flatten → o = some ls.flatten) (by omega)
      (fun fu s e => by unfold m_slices_Concat_Change_l6; rw [d_nlt (by omega), cond_false, e, List.take_of_length_le (Nat.le_refl _)])
      (fun fu s i hi ih e => by
        unfold m_slices_Concat_Change_l6
        have := le (i + 1)
        rw [tk i hi, List.length_append] at this
        rw [d_lt (by omega), cond_true, geti_lt hi, obind_some, app_ok (by rw [e]; omega), obind_some, inc_ok (by omega)]
        exact ih _ (by rw [tk i hi, e])) []
    exact this rfl
  unfold m_slices_Concat_Change
  have := loopG_0 (L := fun fu s i => m_slices_Concat_Change_l1 ls fu s i) (n := ls.length) (P := fun i s o => s = (((ls.take i).flatten.length : Nat) : Int) → o = some ls.flatten) (by omega)
    (fun fu s e => by
      unfold m_slices_Concat_Change_l1
      have := le ls.length
      rw [d_nlt (by omega), cond_false, e, grow_ok (by omega), obind_some, l6])
    (fun fu s i hi ih e => by
      unfold m_slices_Concat_Change_l1
      have h1 := le (i + 1)
      have h2 := tk i hi
      rw [h2, List.length_append] at h1
      rw [d_lt (by omega), cond_true, geti_lt hi, obind_some, w64 (by omega) (by omega), d_nlt (by omega), cond_false, inc_ok (by omega)]
      exact ih _ (by rw [h2, List.length_append]; omega)) 0
  exact this rfl
theorem cloneL_ok {l : List (List GChange)} (h : l.length ≤ 1000000) : m_slices_Clone_tally_Change_tally_Change l = some l := by
  unfold m_slices_Clone_tally_Change_tally_Change
  rw [app_ok (by simp; omega), obind_some, List.nil_append]
theorem there_in {x : GNet} {w : Nat} (h : w < x.Views.length) : m_view_Net_there x (w : Int) = some true := by
  unfold m_view_Net_there
  rw [decide_eq_true (by omega), cond_true, decide_eq_true (by omega)]
theorem there_out {x : GNet} {w : Int} (h : w < 0 ∨ (x.Views.length : Int) ≤ w) : m_view_Net_there x w = some false := by
  unfold m_view_Net_there
  by_cases h0 : 0 ≤ w
  · rw [decide_eq_true h0, cond_true, decide_eq_false (by omega)]
  · rw [decide_eq_false h0, cond_false]
theorem cloneN_ok {x : GNet} (h1 : x.Views.length ≤ 1000000) (h2 : x.Pending.length ≤ 1000000) : m_view_Net_clone x = some ⟨x.Cap, x.Views, x.Pending, some (ml x.Links)⟩ := by
  unfold m_view_Net_clone
  rw [cloneL_ok h1, obind_some, cloneL_ok h2, obind_some]
  cases h : x.Links with
  | none => rfl
  | some l => rfl
/-- A net with room for so many workers; its links have keys among these, each once, none empty. -/
structure LOK (W : Nat) (l : Lks) : Prop where
  nodup : (l.map (·.1)).Nodup
  ne : ∀ p ∈ l, p.2 ≠ []
  rng : ∀ p ∈ l, (0 ≤ p.1.a0 ∧ p.1.a0 < W) ∧ 0 ≤ p.1.a1 ∧ p.1.a1 < W
def lk (l : Lks) (i k : Int) : List (List GChange) := lkA l ⟨i, k⟩
theorem LOK.put {W : Nat} {l : Lks} (h : LOK W l) {i k : Int} (hi : 0 ≤ i ∧ i < W) (hk : 0 ≤ k ∧ k < W) {v : List (List GChange)} (hv : v ≠ []) : LOK W (mput l ⟨i, k⟩ v) :=
  ⟨put_nodup h.nodup _ _, fun p hp => by rcases put_mem hp with h' | rfl; exact h.ne p h'; exact hv, fun p hp => by rcases put_mem hp with h' | rfl; exact h.rng p h'; exact ⟨hi, hk⟩⟩
theorem lk_put (l : Lks) (i k i' k' : Int) (v : List (List GChange)) : lk (mput l ⟨i, k⟩ v) i' k' = if i = i' ∧ k = k' then v else lk l i' k' := by
  unfold lk; rw [lkA_put]; simp only [GArr2_Int.mk.injEq]
theorem note_in {x : GNet} {w : Nat} {l : List GChange} (hw : w < x.Views.length) (hp : w < x.Pending.length) (h1 : x.Views.length ≤ 1000000) (h2 : x.Pending.length ≤ 1000000) (hs : small (x.Pending[w] ++ l)) :
    m_view_Net_Note x (w : Int) l = some (⟨x.Cap, x.Views, x.Pending.set w (nrm (x.Pending[w] ++ l)), some (ml x.Links)⟩, 0) := by
  unfold m_view_Net_Note
  rw [there_in hw, obind_some, Bool.not_true, cond_false, cloneN_ok h1 h2, obind_some]
  simp only
  rw [geti_lt hp, obind_some, merge_ok hs, obind_some, obind_some]
  rfl
theorem note_out {x : GNet} {w : Int} {l : List GChange} (h : w < 0 ∨ (x.Views.length : Int) ≤ w) : m_view_Net_Note x w l = some (x, 6) := by
  unfold m_view_Net_Note
  rw [there_out h, obind_some]; rfl
theorem waits_ok (x : GNet) (i k : Int) : m_view_Net_Waits x i k = some (((lk (ml x.Links) i k).length : Nat) : Int) := rfl
/-- What is pending goes to n links, from place i on. -/
def flL (w : Int) (b : List GChange) : Nat → Nat → Lks → Lks
  | _, 0, l => l
  | i, n + 1, l => flL w b (i + 1) n (mput l ⟨w, (i : Int)⟩ (lk l w i ++ [b]))
theorem flL_lk (w : Int) (b : List GChange) : ∀ (n i : Nat) (l : Lks) (j k : Int), lk (flL w b i n l) j k = if j = w ∧ (i : Int) ≤ k ∧ k < i + n then lk l j k ++ [b] else lk l j k
  | 0, i, l, j, k => by unfold flL; rw [if_neg (by omega)]
  | n + 1, i, l, j, k => by
    unfold flL
    rw [flL_lk w b n (i + 1), lk_put]
    by_cases h1 : w = j ∧ (i : Int) = k
    · obtain ⟨rfl, rfl⟩ := h1
      rw [if_neg (by omega), if_pos ⟨rfl, rfl⟩, if_pos (by omega)]
    · rw [if_neg h1]
      by_cases h2 : j = w ∧ ((i + 1 : Nat) : Int) ≤ k ∧ k < ((i + 1 : Nat) : Int) + n
      · rw [if_pos h2, if_pos (by omega)]
      · rw [if_neg h2, if_neg (by omega)]
theorem flL_ok {W : Nat} {w : Int} {b : List GChange} (hw : 0 ≤ w ∧ w < W) : ∀ (n i : Nat) (l : Lks), i + n ≤ W → LOK W l → LOK W (flL w b i n l)
  | 0, i, l, _, h => h
  | n + 1, i, l, hi, h => flL_ok hw n (i + 1) _ (by omega) (h.put hw (by omega) (by simp))
theorem flush_l7 {w : Nat} {x : GNet} (hp : w < x.Pending.length) (hv : x.Views.length ≤ 1000000) : ∀ (n i : Nat) (fu : Nat) (l : Lks), i + n = x.Views.length → n < fu → (∀ k : Nat, i ≤ k → (lk l w k).length ≤ 999999) →
    m_view_Net_Flush_l7 (w : Int) x fu l (i : Int) = some (⟨x.Cap, x.Views, x.Pending.set w [], some (flL w x.Pending[w] i n l)⟩, 0)
  | 0, i, fu, l, hi, hf, hl => by
    obtain ⟨fu, rfl⟩ : ∃ k, fu = k + 1 := ⟨fu - 1, by omega⟩
    unfold m_view_Net_Flush_l7
    rw [d_nlt (by omega), cond_false, geti_lt hp, obind_some]
    rfl
  | n + 1, i, fu, l, hi, hf, hl => by
    obtain ⟨fu, rfl⟩ : ∃ k, fu = k + 1 := ⟨fu - 1, by omega⟩
    have h0 := hl i (Nat.le_refl _)
    unfold m_view_Net_Flush_l7
    have e : m_slices_Clone_tally_Change_tally_Change (Option.getD (mlook l (GArr2_Int.mk (w : Int) (i : Int))) []) = some (lk l w i) := cloneL_ok (l := lk l w i) (by omega)
    rw [d_lt (by omega), cond_true, e, obind_some, geti_lt hp, obind_some, app_ok (by simp; omega), obind_some, inc_ok (by omega), flush_l7 hp hv n (i + 1) fu _ (by omega) (by omega) (fun k hk => by
      rw [lk_put, if_neg (by omega)]; exact hl k (by omega))]
    rfl
/-- Flush, of one that is there. -/
theorem flush_in {x : GNet} {w : Nat} (hw : w < x.Views.length) (hp : w < x.Pending.length) (h1 : x.Views.length ≤ 1000000) (h2 : x.Pending.length ≤ 1000000) (hl : ∀ k : Nat, (lk (ml x.Links) w k).length ≤ 999999) :
    (x.Pending[w] = [] ∧ m_view_Net_Flush x (w : Int) = some (x, 16)) ∨ (x.Pending[w] ≠ [] ∧ (∃ k : Nat, k < x.Views.length ∧ x.Cap ≤ (lk (ml x.Links) w k).length) ∧ m_view_Net_Flush x (w : Int) = some (x, 7)) ∨
    (x.Pending[w] ≠ [] ∧ (∀ k : Nat, k < x.Views.length → ((lk (ml x.Links) w k).length : Int) < x.Cap) ∧ m_view_Net_Flush x (w : Int) = some (⟨x.Cap, x.Views, x.Pending.set w [], some (flL w x.Pending[w] 0 x.Views.length (ml x.Links))⟩, 0)) := by
  have e0 : m_view_Net_Flush x (w : Int) = cond (decide (((List.length x.Pending[w] : Nat) : Int) = 0)) (some (x, 16)) (m_view_Net_Flush_l3 x w 1152921504606846976 0) := by
    unfold m_view_Net_Flush
    rw [there_in hw, obind_some, Bool.not_true, cond_false, geti_lt hp, obind_some]
  by_cases hn : x.Pending[w] = []
  · left
    exact ⟨hn, by rw [e0, decide_eq_true (by simp [hn]), cond_true]⟩
  · right
    have hne : ¬ ((List.length x.Pending[w] : Nat) : Int) = 0 := fun h => hn (List.eq_nil_of_length_eq_zero (by omega))
    rw [e0, decide_eq_false hne, cond_false]
    have fin : m_view_Net_clone x = some ⟨x.Cap, x.Views, x.Pending, some (ml x.Links)⟩ := cloneN_ok h1 h2
    by_cases hex : ∃ k : Nat, k < x.Views.length ∧ x.Cap ≤ (lk (ml x.Links) w k).length
    · left
      refine ⟨hn, hex, ?_⟩
      have := loop1_0 (L := fun fu i => m_view_Net_Flush_l3 x w fu i) (n := x.Views.length) (P := fun i o => (∃ k : Nat, i ≤ k ∧ k < x.Views.length ∧ x.Cap ≤ (lk (ml x.Links) w k).length) → o = some (x, 7)) (by omega)
        (fun fu ⟨k, h3, h4, _⟩ => by omega)
        (fun fu i hi ih ⟨k, h3, h4, h5⟩ => by
          unfold m_view_Net_Flush_l3
          rw [d_lt (by omega), cond_true, waits_ok, obind_some]
          by_cases hc : x.Cap ≤ (lk (ml x.Links) w i).length
          · rw [decide_eq_true hc, cond_true]
          · rw [decide_eq_false hc, cond_false, inc_ok (by omega)]
            refine ih ⟨k, ?_, h4, h5⟩
            rcases Nat.lt_or_ge i k with h | h
            · omega
            · have : k = i := by omega
              rw [this] at h5; exact absurd h5 hc)
      exact this (by obtain ⟨k, h3, h4⟩ := hex; exact ⟨k, by omega, h3, h4⟩)
    · right
      have hall : ∀ k : Nat, k < x.Views.length → ((lk (ml x.Links) w k).length : Int) < x.Cap := fun k hk => by
        rcases Int.lt_or_le ((lk (ml x.Links) w k).length : Int) x.Cap with h | h
        · exact h
        · exact absurd ⟨k, hk, h⟩ hex
      refine ⟨hn, hall, ?_⟩
      exact loop1_0 (L := fun fu i => m_view_Net_Flush_l3 x w fu i) (n := x.Views.length) (P := fun i o => o = some (⟨x.Cap, x.Views, x.Pending.set w [], some (flL w x.Pending[w] 0 x.Views.length (ml x.Links))⟩, 0)) (by omega)
        (fun fu => by
          unfold m_view_Net_Flush_l3
          rw [d_nlt (by omega), cond_false, fin, obind_some]
          exact flush_l7 (x := ⟨x.Cap, x.Views, x.Pending, some (ml x.Links)⟩) hp h1 x.Views.length 0 1152921504606846976 (ml x.Links) (by simp) (by omega) (fun k _ => hl k))
        (fun fu i hi ih => by
          have := hall i hi
          unfold m_view_Net_Flush_l3
          rw [d_lt (by omega), cond_true, waits_ok, obind_some, decide_eq_false (by omega), cond_false, inc_ok (by omega)]
          exact ih)
theorem flush_out {x : GNet} {w : Int} (h : w < 0 ∨ (x.Views.length : Int) ≤ w) : m_view_Net_Flush x w = some (x, 6) := by
  unfold m_view_Net_Flush
  rw [there_out h, obind_some]; rfl
/-- A link without its first batch. -/
def dlL (l : Lks) (i k : Int) : Lks := if (lk l i k).length = 1 then mdel (mput l ⟨i, k⟩ ((lk l i k).drop 1)) ⟨i, k⟩ else mput l ⟨i, k⟩ ((lk l i k).drop 1)
theorem dlL_lk {W : Nat} {l : Lks} (h : LOK W l) (i k i' k' : Int) (hne : lk l i k ≠ []) : lk (dlL l i k) i' k' = if i = i' ∧ k = k' then (lk l i k).drop 1 else lk l i' k' := by
  unfold dlL
  split
  · rename_i h1
    unfold lk
    rw [lkA_del (put_nodup h.nodup _ _), lkA_put]
    simp only [GArr2_Int.mk.injEq]
    by_cases h2 : i = i' ∧ k = k'
    · rw [if_pos h2, if_pos h2]
      unfold lk at h1
      exact (List.drop_eq_nil_of_le (by omega)).symm
    · simp only [if_neg h2]
  · rw [lk_put]
theorem dlL_ok {W : Nat} {l : Lks} (h : LOK W l) {i k : Int} (hi : 0 ≤ i ∧ i < W) (hk : 0 ≤ k ∧ k < W) (hne : lk l i k ≠ []) : LOK W (dlL l i k) := by
  unfold dlL
  split
  · refine ⟨(put_nodup h.nodup _ _).sublist del_keys, fun p hp => ?_, fun p hp => ?_⟩
    · have hd := del_sub hp
      rcases put_mem hd with h' | rfl
      · exact h.ne p h'
      · exfalso
        have h3 := mem_look ((put_nodup h.nodup (⟨i, k⟩ : GArr2_Int) ((lk l i k).drop 1)).sublist (del_keys (k := ⟨i, k⟩))) hp
        rw [look_del (put_nodup h.nodup _ _), if_pos rfl] at h3
        cases h3
    · rcases put_mem (del_sub hp) with h' | rfl
      · exact h.rng p h'
      · exact ⟨hi, hk⟩
  · rename_i h1
    refine h.put hi hk fun e => ?_
    have h2 := congrArg List.length e
    rw [List.length_drop] at h2
    simp at h2
    have h3 : 0 < (lk l i k).length := List.length_pos_iff.2 hne
    omega
theorem deliver_in {x : GNet} {i k : Nat} (hi : i < x.Views.length) (hk : k < x.Views.length) (h1 : x.Views.length ≤ 1000000) (h2 : x.Pending.length ≤ 1000000) (hl : (lk (ml x.Links) i k).length ≤ 1000000) :
    (lk (ml x.Links) i k = [] ∧ m_view_Net_Deliver x (i : Int) (k : Int) = some (x, 16)) ∨
    ∃ b r, lk (ml x.Links) i k = b :: r ∧ (small (x.Views[k] ++ b) → m_view_Net_Deliver x (i : Int) (k : Int) = some (⟨x.Cap, x.Views.set k (nrm (x.Views[k] ++ b)), x.Pending, some (dlL (ml x.Links) i k)⟩, 0)) := by
  have e0 : m_view_Net_Deliver x (i : Int) (k : Int) = cond (decide ((((lk (ml x.Links) i k).length : Nat) : Int) = 0)) (some (x, 16)) (Option.bind (m_view_Net_clone x) fun r32_3 =>
      Option.bind (geti r32_3.Views (k : Int)) fun x43_4 => Option.bind (geti (lk (ml r32_3.Links) i k) 0) fun x46_4 => Option.bind (m_tally_Merge x43_4 x46_4) fun r48_4 => Option.bind (geti r32_3.Views (k : Int)) fun x49_4 =>
      Option.bind (cut (lk (ml r32_3.Links) i k) 1 (((lk (ml r32_3.Links) i k).length : Nat) : Int)) fun s54_5 => Option.bind (m_slices_Clone_tally_Change_tally_Change s54_5) fun r55_5 =>
      cond (decide ((((lk (ml r32_3.Links) i k).length : Nat) : Int) = 1))
        (some ((GNet.mk r32_3.Cap (List.set r32_3.Views (Int.toNat (k : Int)) r48_4) r32_3.Pending (some (mdel (mput (ml r32_3.Links) (GArr2_Int.mk i k) r55_5) (GArr2_Int.mk i k)))), 0))
        (some ((GNet.mk r32_3.Cap (List.set r32_3.Views (Int.toNat (k : Int)) r48_4) r32_3.Pending (some (mput (ml r32_3.Links) (GArr2_Int.mk i k) r55_5))), 0))) := by
    unfold m_view_Net_Deliver
    rw [there_in hi, obind_some, Bool.not_true, cond_false, there_in hk, obind_some, Bool.not_true, cond_false]
    rfl
  rw [e0]
  cases hL : lk (ml x.Links) i k with
  | nil => left; exact ⟨rfl, rfl⟩
  | cons b r =>
    right
    refine ⟨b, r, rfl, fun hs => ?_⟩
    rw [hL] at hl
    have e1 : lk (ml (some (ml x.Links))) i k = b :: r := hL
    rw [decide_eq_false (by simp; omega), cond_false, cloneN_ok h1 h2, obind_some]
    simp only [e1]
    rw [geti_lt hk, obind_some, geti_0, obind_some, merge_ok hs, obind_some, obind_some, show (1 : Int) = ((1 : Nat) : Int) from rfl, cut_ok (by simp) (Nat.le_refl _), obind_some, cloneL_ok (by simp at hl ⊢; omega), obind_some]
    have e2 : (List.drop 1 (b :: r)).take ((b :: r).length - 1) = r := by simp
    rw [e2]
    unfold dlL
    rw [hL]
    by_cases h3 : (b :: r).length = 1
    · rw [decide_eq_true (by omega), cond_true, if_pos h3]; rfl
    · rw [decide_eq_false (by omega), cond_false, if_neg h3]; rfl
theorem deliver_out {x : GNet} {i k : Int} (h : (i < 0 ∨ (x.Views.length : Int) ≤ i) ∨ k < 0 ∨ (x.Views.length : Int) ≤ k) : m_view_Net_Deliver x i k = some (x, 6) := by
  unfold m_view_Net_Deliver
  by_cases h1 : i < 0 ∨ (x.Views.length : Int) ≤ i
  · rw [there_out h1, obind_some]; rfl
  · obtain ⟨j, rfl⟩ : ∃ j : Nat, i = (j : Int) := ⟨i.toNat, by omega⟩
    rw [there_in (by omega), obind_some, Bool.not_true, cond_false, there_out (by omega), obind_some]; rfl
theorem idleC_ok {P : List (List GChange)} (h : P.length ≤ 1000000) : m_slices_ContainsFunc_tally_Change_tally_Change__view_Net_Idle_1 P = some (P.any fun l => decide (l ≠ [])) := by
  unfold m_slices_ContainsFunc_tally_Change_tally_Change__view_Net_Idle_1 m_slices_IndexFunc_tally_Change_tally_Change__view_Net_Idle_1
  have := loop1_0 (L := fun fu i => m_slices_IndexFunc_tally_Change_tally_Change__view_Net_Idle_1_l1 P fu i) (n := P.length) (P := fun i o => ∃ z, o = some z ∧ (0 ≤ z ↔ ∃ l ∈ P.drop i, l ≠ [])) (by omega)
    (fun fu => by
      unfold m_slices_IndexFunc_tally_Change_tally_Change__view_Net_Idle_1_l1
      rw [d_nlt (by omega), cond_false]
      exact ⟨-1, rfl, by simp⟩)
    (fun fu i hi ih => by
      unfold m_slices_IndexFunc_tally_Change_tally_Change__view_Net_Idle_1_l1 m_view_Net_Idle_1
      rw [d_lt (by omega), cond_true, geti_lt hi, obind_some, obind_some, drop_cons hi]
      by_cases hn : P[i] = []
      · rw [hn, decide_eq_false (by simp), cond_false, inc_ok (by omega)]
        obtain ⟨z, h1, h2⟩ := ih
        exact ⟨z, h1, by rw [h2]; simp⟩
      · have : 0 < P[i].length := List.length_pos_iff.2 hn
        rw [decide_eq_true (by omega), cond_true]
        exact ⟨_, rfl, ⟨fun _ => ⟨P[i], List.mem_cons_self, hn⟩, fun _ => by omega⟩⟩)
  obtain ⟨z, h1, h2⟩ := this
  rw [h1, obind_some]
  congr 1
  rw [List.drop_zero] at h2
  cases hc : P.any fun l => decide (l ≠ []) with
  | true =>
    rw [List.any_eq_true] at hc
    obtain ⟨l, hl, hn⟩ := hc
    exact decide_eq_true (h2.2 ⟨l, hl, of_decide_eq_true hn⟩)
  | false =>
    refine decide_eq_false fun h => ?_
    obtain ⟨l, hl, hn⟩ := h2.1 h
    rw [List.any_eq_false] at hc
    exact hc l hl (decide_eq_true hn)
theorem idle_ok {x : GNet} (h : x.Pending.length ≤ 1000000) : m_view_Net_Idle x = some (decide ((∀ l ∈ x.Pending, l = []) ∧ ml x.Links = [])) := by
  unfold m_view_Net_Idle
  rw [idleC_ok h, obind_some]
  cases hc : x.Pending.any fun l => decide (l ≠ []) with
  | true =>
    rw [Bool.not_true, cond_false]
    rw [List.any_eq_true] at hc
    obtain ⟨l, hl, hn⟩ := hc
    rw [decide_eq_false fun h => (of_decide_eq_true hn) (h.1 l hl)]
  | false =>
    rw [Bool.not_false, cond_true]
    rw [List.any_eq_false] at hc
    congr 1
    refine decide_eq_decide.2 ⟨fun h => ⟨fun l hl => ?_, List.eq_nil_of_length_eq_zero (by omega)⟩, fun h => by rw [h.2]; rfl⟩
    exact Classical.byContradiction fun hn => hc l hl (decide_eq_true hn)
theorem sameL_ok {a b : List (List GChange)} (ha : a.length ≤ 1000000) (hb : b.length ≤ 1000000) (ea : ∀ l ∈ a, l.length ≤ 1000000) (eb : ∀ l ∈ b, l.length ≤ 1000000) : m_view_sameLists a b = some (decide (a = b)) := by
  unfold m_view_sameLists m_slices_EqualFunc_tally_Change_tally_Change_tally_Change_tally_Change__tally_Same
  by_cases hl : a.length = b.length
  · rw [decide_eq_false (by omega), cond_false]
    rw [eq_loop (L := fun fu i => m_slices_EqualFunc_tally_Change_tally_Change_tally_Change_tally_Change__tally_Same_l2 a b fu i) hl (by omega) (fun fu => by
        unfold m_slices_EqualFunc_tally_Change_tally_Change_tally_Change_tally_Change__tally_Same_l2
        rw [d_nlt (by omega), cond_false]) (fun fu i h1 h2 => by
        rw [m_slices_EqualFunc_tally_Change_tally_Change_tally_Change_tally_Change__tally_Same_l2]
        rw [d_lt (by omega), cond_true, geti_lt h1, obind_some, geti_lt h2, obind_some, tsame_ok (by have := ea _ (List.getElem_mem h1); omega) (by have := eb _ (List.getElem_mem h2); omega), obind_some]
        by_cases h : a[i] = b[i]
        · rw [decide_eq_true h, Bool.not_true, cond_false, if_pos h, inc_ok (by omega)]
        · rw [decide_eq_false h, Bool.not_false, cond_true, if_neg h]), obind_some]
  · rw [decide_eq_true (by omega), cond_true, obind_some, decide_eq_false (fun e => hl (by rw [e]))]
theorem vsame_ok {x : GNet} {W : Nat} (h : LOK W (ml x.Links)) (h1 : x.Views.length ≤ 1000000) (h2 : x.Pending.length ≤ 1000000) (e1 : ∀ l ∈ x.Views, l.length ≤ 1000000) (e2 : ∀ l ∈ x.Pending, l.length ≤ 1000000) (e3 : ∀ p ∈ ml x.Links, p.2.length ≤ 1000000 ∧ ∀ l ∈ p.2, l.length ≤ 1000000) : m_view_Same x x = some true := by
  unfold m_view_Same
  rw [decide_eq_true rfl, cond_true, sameL_ok h1 h1 e1 e1, obind_some, decide_eq_true rfl, cond_true, sameL_ok h2 h2 e2 e2, obind_some, decide_eq_true rfl, cond_true]
  unfold m_maps_EqualFunc_map_2_int_tally_Change_map_2_int_tally_Change_2_int_tally_Change_tally_Change__view_sameLists
  rw [meq_same h.nodup fun p hp => by rw [sameL_ok (e3 p hp).1 (e3 p hp).1 (e3 p hp).2 (e3 p hp).2, decide_eq_true rfl], obind_some]
theorem new_ok {w most : Int} {first : List GChange} (hs : small first) (h : (1 ≤ w ∧ w ≤ 16) ∧ 1 ≤ most ∧ most ≤ 4096) : m_view_New w most first = some (⟨most, List.replicate w.toNat (nrm first), List.replicate w.toNat [], some []⟩, 0) := by
  obtain ⟨n, rfl⟩ : ∃ n : Nat, w = (n : Int) := ⟨w.toNat, by omega⟩
  unfold m_view_New
  rw [d_nlt (by omega), cond_false, d_nlt (by omega), cond_false, d_nlt (by omega), cond_false, d_nlt (by omega), cond_false, show mkl (n : Int) ([] : List GChange) = some (List.replicate n []) by unfold mkl; rw [if_pos (by omega)]; simp, obind_some]
  have := loopG_0 (L := fun fu s i => m_view_New_l3 (n : Int) most first (List.replicate n []) fu s i) (n := n) (P := fun i s o => s = List.replicate i (nrm first) → o = some ((⟨most, List.replicate n (nrm first), List.replicate n [], some []⟩ : GNet), (0 : Int))) (by omega)
    (fun fu s e => by unfold m_view_New_l3; rw [d_nlt (by omega), cond_false, e])
    (fun fu s i hi ih e => by
      unfold m_view_New_l3
      rw [d_lt (by omega), cond_true, normal_ok hs, obind_some, app_ok (by rw [e]; simp; omega), obind_some, inc_ok (by omega)]
      exact ih _ (by rw [e, List.replicate_succ'])) []
  exact this rfl
theorem new_err {w most : Int} {first : List GChange} (h : ¬ ((1 ≤ w ∧ w ≤ 16) ∧ 1 ≤ most ∧ most ≤ 4096)) : m_view_New w most first = some (⟨0, [], [], none⟩, 2) := by
  unfold m_view_New m_view_New_j1
  by_cases h1 : w < 1
  · rw [d_lt h1, cond_true]
  rw [d_nlt h1, cond_false]
  by_cases h2 : 16 < w
  · rw [d_lt h2, cond_true]
  rw [d_nlt h2, cond_false]
  by_cases h3 : most < 1
  · rw [d_lt h3, cond_true]
  rw [d_nlt h3, cond_false, d_lt (by omega), cond_true]
end Go.Proofs.Ytcpageegmpjkiaa.K

namespace Go.Proofs.Ytcpageegmpjkiaa.K
open Go.RowKit Go.Lib
def noted (x : GNet) (w : Nat) (l : List GChange) : GNet := ⟨x.Cap, x.Views, x.Pending.set w (nrm (x.Pending.getD w [] ++ l)), some (ml x.Links)⟩
def flushed (x : GNet) (w : Nat) : GNet := ⟨x.Cap, x.Views, x.Pending.set w [], some (flL w (x.Pending.getD w []) 0 x.Views.length (ml x.Links))⟩
def delivered (x : GNet) (i k : Nat) (b : List GChange) : GNet := ⟨x.Cap, x.Views.set k (nrm (x.Views.getD k [] ++ b)), x.Pending, some (dlL (ml x.Links) i k)⟩
/-- How large a net is. -/
structure NI (W : Nat) (L A VL VA B : Nat) (x : GNet) : Prop where
  vlen : x.Views.length = W
  plen : x.Pending.length = W
  lok : LOK W (ml x.Links)
  p : ∀ l ∈ x.Pending, l.length ≤ L ∧ absum l ≤ A
  n : ∀ i k, (lk (ml x.Links) i k).length ≤ B
  b : ∀ i k, ∀ l ∈ lk (ml x.Links) i k, l.length ≤ L ∧ absum l ≤ A
  v : ∀ l ∈ x.Views, (l.length ≤ VL ∧ absum l ≤ VA) ∧ Norm l
section
variable {W L A VL VA B : Nat} {x : GNet}
theorem NI.mono {L' A' VL' VA' B' : Nat} (h : NI W L A VL VA B x) (h1 : L ≤ L') (h2 : A ≤ A') (h3 : VL ≤ VL') (h4 : VA ≤ VA') (h5 : B ≤ B') : NI W L' A' VL' VA' B' x :=
  ⟨h.vlen, h.plen, h.lok, fun l hl => by have := h.p l hl; omega, fun i k => by have := h.n i k; omega, fun i k l hl => by have := h.b i k l hl; omega, fun l hl => ⟨by have := (h.v l hl).1; omega, (h.v l hl).2⟩⟩
theorem NI.pg (h : NI W L A VL VA B x) (w : Nat) : (x.Pending.getD w []).length ≤ L ∧ absum (x.Pending.getD w []) ≤ A := by
  rw [List.getD_eq_getElem?_getD]
  cases hx : x.Pending[w]? with
  | none => exact ⟨Nat.zero_le _, Nat.zero_le _⟩
  | some l => exact h.p l (List.mem_of_getElem? hx)
theorem NI.vg (h : NI W L A VL VA B x) (w : Nat) : ((x.Views.getD w []).length ≤ VL ∧ absum (x.Views.getD w []) ≤ VA) ∧ Norm (x.Views.getD w []) := by
  rw [List.getD_eq_getElem?_getD]
  cases hx : x.Views[w]? with
  | none => exact ⟨⟨Nat.zero_le _, Nat.zero_le _⟩, List.Pairwise.nil, by simp⟩
  | some l => exact h.v l (List.mem_of_getElem? hx)
theorem mem_set {α : Type} {l : List α} {i : Nat} {y z : α} (h : z ∈ l.set i y) : z ∈ l ∨ z = y := by
  rcases List.mem_or_eq_of_mem_set h with h | h
  · exact .inl h
  · exact .inr h
theorem NI.noted (h : NI W L A VL VA B x) {w : Nat} {l : List GChange} {dl da : Nat} (hl : l.length ≤ dl ∧ absum l ≤ da) : NI W (L + dl) (A + da) VL VA B (noted x w l) := by
  have hg := h.pg w
  have h1 := nrm_len (x.Pending.getD w [] ++ l)
  have h2 := nrm_abs (x.Pending.getD w [] ++ l)
  rw [List.length_append] at h1
  rw [absum_app] at h2
  refine ⟨h.vlen, by simp [K.noted, h.plen], h.lok, fun z hz => ?_, h.n, fun i k z hz => ?_, h.v⟩
  · rcases mem_set hz with hz | rfl
    · have := h.p z hz; omega
    · omega
  · have := h.b i k z hz; omega
theorem NI.flushed (h : NI W L A VL VA B x) {w : Nat} (hw : w < W) : NI W L A VL VA (B + 1) (flushed x w) := by
  refine ⟨h.vlen, by simp [K.flushed, h.plen], ?_, fun z hz => ?_, fun i k => ?_, fun i k z hz => ?_, h.v⟩
  · exact flL_ok (by omega) _ _ _ (by rw [h.vlen]; omega) h.lok
  · rcases mem_set hz with hz | rfl
    · exact h.p z hz
    · exact ⟨Nat.zero_le _, Nat.zero_le _⟩
  · have := h.n i k
    show (lk (flL w (x.Pending.getD w []) 0 x.Views.length (ml x.Links)) i k).length ≤ _
    rw [flL_lk]; split
    · simp only [List.length_append, List.length_singleton]; omega
    · omega
  · have hz' : z ∈ lk (flL w (x.Pending.getD w []) 0 x.Views.length (ml x.Links)) i k := hz
    rw [flL_lk] at hz'
    split at hz'
    · rcases List.mem_append.1 hz' with hz' | hz'
      · exact h.b i k z hz'
      · simp at hz'; subst hz'; exact h.pg w
    · exact h.b i k z hz'
theorem NI.delivered (h : NI W L A VL VA B x) {i k : Nat} (hi : i < W) (hk : k < W) {b : List GChange} {r : List (List GChange)} (hb : lk (ml x.Links) i k = b :: r) : NI W L A (VL + L) (VA + A) B (delivered x i k b) := by
  have hg := (h.vg k).1
  have hbb := h.b i k b (by rw [hb]; simp)
  have h1 := nrm_len (x.Views.getD k [] ++ b)
  have h2 := nrm_abs (x.Views.getD k [] ++ b)
  rw [List.length_append] at h1
  rw [absum_app] at h2
  have hne : lk (ml x.Links) i k ≠ [] := by rw [hb]; simp
  have hlk : ∀ i' k', lk (dlL (ml x.Links) i k) i' k' = if (i : Int) = i' ∧ (k : Int) = k' then r else lk (ml x.Links) i' k' := fun i' k' => by
    rw [dlL_lk h.lok _ _ _ _ hne, hb]; rfl
  have hsub : ∀ i' k', ∀ z ∈ lk (dlL (ml x.Links) i k) i' k', z ∈ lk (ml x.Links) i' k' := fun i' k' z hz => by
    rw [hlk] at hz
    split at hz
    · rename_i e; rw [← e.1, ← e.2, hb]; simp [hz]
    · exact hz
  refine ⟨by simp [K.delivered, h.vlen], h.plen, dlL_ok h.lok (by omega) (by omega) hne, h.p, fun i' k' => ?_, fun i' k' z hz => h.b i' k' z (hsub i' k' z hz), fun z hz => ?_⟩
  · have := h.n i' k'
    show (lk (dlL (ml x.Links) i k) i' k').length ≤ _
    rw [hlk]
    split
    · rename_i e; rw [← e.1, ← e.2, hb] at this; simp at this; omega
    · exact this
  · rcases mem_set hz with hz | rfl
    · have := h.v z hz; exact ⟨by omega, this.2⟩
    · exact ⟨by omega, nrm_norm _⟩
end
theorem getD_in {α : Type} {l : List α} {i : Nat} {d : α} (h : i < l.length) : l.getD i d = l[i] := by rw [List.getD_eq_getElem?_getD, List.getElem?_eq_getElem h]; rfl
/-! ### sums -/
theorem atp_set : ∀ (P : List (List GChange)) (w : Nat) (q : List GChange) (a b : Int), w < P.length → atp (P.set w q).flatten a b = atp P.flatten a b - atp (P.getD w []) a b + atp q a b
  | [], w, q, a, b, h => by simp at h
  | p :: P, 0, q, a, b, h => by
    simp only [List.set_cons_zero, List.flatten_cons, atp_app, List.getD_cons_zero]; omega
  | p :: P, w + 1, q, a, b, h => by
    have := atp_set P w q a b (by simpa using h)
    simp only [List.set_cons_succ, List.flatten_cons, atp_app, List.getD_cons_succ]; omega
/-- All that is on its way to a worker, from the first n ones. -/
def lto (l : Lks) (w : Int) : Nat → List GChange
  | 0 => []
  | n + 1 => lto l w n ++ (lk l n w).flatten
theorem lto_eq {l l' : Lks} {w : Int} {a b : Int} {i : Nat} {d : Int} (h : ∀ f : Nat, atp (lk l' f w).flatten a b = atp (lk l f w).flatten a b + if f = i then d else 0) : ∀ n, atp (lto l' w n) a b = atp (lto l w n) a b + if i < n then d else 0
  | 0 => by simp [lto]
  | n + 1 => by
    have ih := lto_eq h n
    have := h n
    simp only [lto, atp_app]
    rw [ih, this]
    by_cases h1 : n = i
    · subst h1; rw [if_pos rfl, if_neg (by omega), if_pos (by omega)]; omega
    · rw [if_neg h1]
      by_cases h2 : i < n
      · rw [if_pos h2, if_pos (by omega)]; omega
      · rw [if_neg h2, if_neg (by omega)]; omega
theorem lto_same {l l' : Lks} {w : Int} {a b : Int} (h : ∀ f : Nat, atp (lk l' f w).flatten a b = atp (lk l f w).flatten a b) (n : Nat) : atp (lto l' w n) a b = atp (lto l w n) a b := by
  have := lto_eq (i := 0) (d := 0) (l := l) (l' := l') (w := w) (a := a) (b := b) (fun f => by rw [h f]; split <;> simp) n
  rw [this]; split <;> simp
/-- What a worker will know. -/
def whole (x : GNet) (w : Nat) : List GChange := x.Views.getD w [] ++ (x.Pending.flatten ++ lto (ml x.Links) w x.Views.length)
section
variable {W L A VL VA B : Nat} {x : GNet}
theorem whole_noted (h : NI W L A VL VA B x) {w : Nat} (hw : w < W) (l : List GChange) (k : Nat) (a b : Int) : atp (whole (noted x w l) k) a b = atp (whole x k) a b + atp l a b := by
  have := atp_set x.Pending w (nrm (x.Pending.getD w [] ++ l)) a b (by rw [h.plen]; exact hw)
  simp only [whole, noted, atp_app, ml, Option.getD_some]
  rw [this, nrm_at, atp_app]; omega
theorem whole_flushed (h : NI W L A VL VA B x) {w : Nat} (hw : w < W) {k : Nat} (hk : k < W) (a b : Int) : atp (whole (flushed x w) k) a b = atp (whole x k) a b := by
  have h1 := atp_set x.Pending w [] a b (by rw [h.plen]; exact hw)
  have h2 := lto_eq (l := ml x.Links) (l' := flL w (x.Pending.getD w []) 0 x.Views.length (ml x.Links)) (w := (k : Int)) (a := a) (b := b) (i := w) (d := atp (x.Pending.getD w []) a b) (fun f => by
    rw [flL_lk]
    have hv := h.vlen
    by_cases hf : f = w
    · subst hf; rw [if_pos (by omega), if_pos rfl, List.flatten_append, atp_app]; simp
    · rw [if_neg (by omega), if_neg hf]; omega) x.Views.length
  rw [h.vlen, if_pos hw] at h2
  simp only [whole, flushed, atp_app, ml, Option.getD_some] at h2 ⊢
  rw [h.vlen, h1, h2]
  have : atp [] a b = 0 := rfl
  omega
theorem whole_delivered (h : NI W L A VL VA B x) {i k : Nat} (hi : i < W) (hk : k < W) {b : List GChange} {r : List (List GChange)} (hb : lk (ml x.Links) i k = b :: r) (j : Nat) (a c : Int) : atp (whole (delivered x i k b) j) a c = atp (whole x j) a c := by
  have hne : lk (ml x.Links) i k ≠ [] := by rw [hb]; simp
  have hlk : ∀ f : Nat, lk (dlL (ml x.Links) i k) f j = if i = f ∧ k = j then r else lk (ml x.Links) f j := fun f => by
    rw [dlL_lk h.lok _ _ _ _ hne, hb]
    by_cases h1 : i = f ∧ k = j
    · rw [if_pos h1, if_pos (by omega)]; rfl
    · rw [if_neg h1, if_neg (by omega)]
  simp only [whole, delivered, atp_app, ml, Option.getD_some, List.length_set]
  by_cases hj : j = k
  · subst hj
    have h2 := lto_eq (l := ml x.Links) (l' := dlL (ml x.Links) i j) (w := (j : Int)) (a := a) (b := c) (i := i) (d := - atp b a c) (fun f => by
      rw [hlk]
      by_cases hf : f = i
      · subst hf; rw [if_pos ⟨rfl, rfl⟩, if_pos rfl, hb, List.flatten_cons, atp_app]; omega
      · rw [if_neg (fun e => hf e.1.symm), if_neg hf]; omega) x.Views.length
    rw [if_pos (by rw [h.vlen]; exact hi)] at h2
    simp only [ml] at h2
    rw [h2, getD_in (by rw [List.length_set, h.vlen]; exact hk), List.getElem_set_self, nrm_at, atp_app]; omega
  · have h2 := lto_same (l := ml x.Links) (l' := dlL (ml x.Links) i k) (w := (j : Int)) (a := a) (b := c) (fun f => by rw [hlk, if_neg (fun e => hj e.2.symm)]) x.Views.length
    simp only [ml] at h2
    rw [h2]
    have : (x.Views.set k (nrm (x.Views.getD k [] ++ b))).getD j [] = x.Views.getD j [] := by
      simp only [List.getD_eq_getElem?_getD, List.getElem?_set]
      rw [if_neg (fun e => hj e.symm)]
    simp only [List.getD_eq_getElem?_getD] at this ⊢
    rw [this]
/-- Sizes of all that there is. -/
theorem flat_len : ∀ {P : List (List GChange)} {L A : Nat}, (∀ l ∈ P, l.length ≤ L ∧ absum l ≤ A) → P.flatten.length ≤ P.length * L ∧ absum P.flatten ≤ P.length * A
  | [], L, A, h => ⟨by simp, by simp [absum]⟩
  | p :: P, L, A, h => by
    have ih := flat_len (P := P) (L := L) (A := A) fun l hl => h l (by simp [hl])
    have := h p (by simp)
    simp only [List.flatten_cons, List.length_append, absum_app, List.length_cons, Nat.succ_mul]
    omega
theorem lto_len {l : Lks} {w : Int} {L A B : Nat} (hn : ∀ i : Nat, (lk l i w).length ≤ B) (hb : ∀ i : Nat, ∀ z ∈ lk l i w, z.length ≤ L ∧ absum z ≤ A) : ∀ n, (lto l w n).length ≤ n * (B * L) ∧ absum (lto l w n) ≤ n * (B * A)
  | 0 => ⟨by simp [lto], by simp [lto, absum]⟩
  | n + 1 => by
    have ih := lto_len hn hb n
    have h1 := flat_len (hb n)
    have h2 := Nat.mul_le_mul_right L (hn n)
    have h3 := Nat.mul_le_mul_right A (hn n)
    simp only [lto, List.length_append, absum_app, Nat.succ_mul]
    omega
/-- Truth, of one that is there. -/
theorem truth_in (h : NI W L A VL VA B x) {w : Nat} (hw : w < W) (hW : W ≤ 1000) (hB : B ≤ 1000000) (hs : VL + (W * L + W * (B * L)) ≤ 1000000 ∧ VA + (W * A + W * (B * A)) ≤ 1152921504606846976) : small (whole x w) ∧ m_view_Net_Truth x (w : Int) = some (nrm (whole x w)) := by
  have hp := flat_len h.p
  have hl := lto_len (l := ml x.Links) (w := (w : Int)) (fun i => h.n i w) (fun i => h.b i w) W
  have hv := (h.vg w).1
  rw [h.plen] at hp
  have sm : small (whole x w) := by
    refine ⟨?_, ?_⟩
    · unfold whole; rw [h.vlen]; simp only [List.length_append]; omega
    · unfold whole; rw [h.vlen]; simp only [absum_app]; omega
  refine ⟨sm, ?_⟩
  have mono : ∀ i j, i ≤ j → (lto (ml x.Links) w i).length ≤ (lto (ml x.Links) w j).length := fun i j hij => by
    induction j with
    | zero => have : i = 0 := by omega
              subst this; exact Nat.le_refl _
    | succ j ih =>
      rcases Nat.lt_or_ge i (j + 1) with h1 | h1
      · have := ih (by omega); simp only [lto, List.length_append]; omega
      · have : i = j + 1 := by omega
        subst this; exact Nat.le_refl _
  unfold m_view_Net_Truth
  rw [there_in (by rw [h.vlen]; exact hw), obind_some, Bool.not_true, cond_false, concatN_ok (by omega) (by rw [h.plen]; omega), obind_some]
  have := loopG_0 (L := fun fu s i => m_view_Net_Truth_l3 x w fu s i) (n := W) (P := fun i s o => s = x.Pending.flatten ++ lto (ml x.Links) w i → o = some (nrm (whole x w))) (by omega)
    (fun fu s e => by
      unfold m_view_Net_Truth_l3
      rw [d_nlt (by rw [h.vlen]; omega), cond_false, geti_lt (by rw [h.vlen]; exact hw), obind_some, e]
      have hwv : w < x.Views.length := by rw [h.vlen]; exact hw
      have e1 : x.Views[w] ++ (x.Pending.flatten ++ lto (ml x.Links) w W) = whole x w := by
        have q := getD_in (d := []) hwv
        unfold whole
        rw [q]
        have e2 : lto (ml x.Links) (w : Int) W = lto (ml x.Links) (w : Int) x.Views.length := by rw [h.vlen]
        rw [e2]
      rw [merge_ok (by rw [e1]; exact sm), obind_some, e1])
    (fun fu s i hi ih e => by
      unfold m_view_Net_Truth_l3
      have m1 := mono (i + 1) W (by omega)
      simp only [lto, List.length_append] at m1
      have hn := h.n i w
      rw [d_lt (by rw [h.vlen]; omega), cond_true]
      have e1 : m_slices_Concat_Change (Option.getD (mlook (ml x.Links) (GArr2_Int.mk (i : Int) (w : Int))) []) = some (lk (ml x.Links) i w).flatten := concatN_ok (ls := lk (ml x.Links) i w) (by omega) (by omega)
      rw [e1, obind_some, app_ok (by rw [e, List.length_append]; omega), obind_some, inc_ok (by omega)]
      exact ih _ (by rw [e, List.append_assoc]; rfl)) x.Pending.flatten
  exact this (by simp [lto])
end
end Go.Proofs.Ytcpageegmpjkiaa.K

namespace Go.Proofs.Ytcpageegmpjkiaa.K
open Go.RowKit Go.Lib
theorem awk29 : m_w29_awake = some true := by decide +kernel
section
variable {W L A VL VA B : Nat} {x : GNet}
theorem NI.ml (h : NI W L A VL VA B x) : ∀ p ∈ K.ml x.Links, p.2.length ≤ B ∧ ∀ l ∈ p.2, l.length ≤ L := fun p hp => by
  have e : lk (K.ml x.Links) p.1.a0 p.1.a1 = p.2 := by
    unfold lk lkA
    rw [mem_look h.lok.nodup hp]; rfl
  have h1 := h.n p.1.a0 p.1.a1
  have h2 := h.b p.1.a0 p.1.a1
  rw [e] at h1 h2
  exact ⟨h1, fun l hl => (h2 l hl).1⟩
theorem NI.same (h : NI W L A VL VA B x) (hW : W ≤ 1000) (hL : L ≤ 1000000) (hV : VL ≤ 1000000) (hB : B ≤ 1000000) : m_view_Same x x = some true :=
  vsame_ok h.lok (by rw [h.vlen]; omega) (by rw [h.plen]; omega) (fun l hl => by have := (h.v l hl).1; omega) (fun l hl => by have := h.p l hl; omega) fun p hp => ⟨by have := (h.ml p hp).1; omega, fun l hl => by have := (h.ml p hp).2 l hl; omega⟩
theorem note_step (h : NI W L A VL VA B x) (hW : W ≤ 1000) {w : Int} {l : List GChange} {dl da : Nat} (hl : l.length ≤ dl ∧ absum l ≤ da) (h1 : L + dl ≤ 1000000) (h2 : A + da ≤ 1152921504606846976) :
    (∃ n : Nat, w = n ∧ n < W ∧ m_view_Net_Note x w l = some (noted x n l, 0)) ∨ ((w < 0 ∨ (W : Int) ≤ w) ∧ m_view_Net_Note x w l = some (x, 6)) := by
  by_cases hw : w < 0 ∨ (W : Int) ≤ w
  · exact .inr ⟨hw, note_out (by rw [h.vlen]; exact hw)⟩
  · obtain ⟨n, rfl⟩ : ∃ n : Nat, w = (n : Int) := ⟨w.toNat, by omega⟩
    have hn : n < W := by omega
    have hp : n < x.Pending.length := by rw [h.plen]; exact hn
    have hg := h.pg n
    have e := getD_in (d := []) hp
    rw [e] at hg
    refine .inl ⟨n, rfl, hn, ?_⟩
    rw [note_in (by rw [h.vlen]; exact hn) hp (by rw [h.vlen]; omega) (by rw [h.plen]; omega) ⟨by rw [List.length_append]; omega, by rw [absum_app]; omega⟩]
    unfold noted
    rw [e]
theorem flush_step (h : NI W L A VL VA B x) (hW : W ≤ 1000) (hB : B ≤ 900000) {w : Int} :
    (∃ n : Nat, w = n ∧ n < W ∧ x.Pending.getD n [] ≠ [] ∧ (∀ k : Nat, k < W → ((lk (ml x.Links) w k).length : Int) < x.Cap) ∧ m_view_Net_Flush x w = some (flushed x n, 0)) ∨
    ∃ e : Int, e ≠ 0 ∧ m_view_Net_Flush x w = some (x, e) ∧ (((w < 0 ∨ (W : Int) ≤ w) ∧ e = 6) ∨ ∃ n : Nat, w = n ∧ n < W ∧ ((x.Pending.getD n [] = [] ∧ e = 16) ∨ (x.Pending.getD n [] ≠ [] ∧ (∃ k : Nat, k < W ∧ x.Cap ≤ (lk (ml x.Links) w k).length) ∧ e = 7))) := by
  by_cases hw : w < 0 ∨ (W : Int) ≤ w
  · exact .inr ⟨6, by decide, flush_out (by rw [h.vlen]; exact hw), .inl ⟨hw, rfl⟩⟩
  · obtain ⟨n, rfl⟩ : ∃ n : Nat, w = (n : Int) := ⟨w.toNat, by omega⟩
    have hn : n < W := by omega
    have hp : n < x.Pending.length := by rw [h.plen]; exact hn
    have e := getD_in (d := []) hp
    rcases flush_in (x := x) (w := n) (by rw [h.vlen]; exact hn) hp (by rw [h.vlen]; omega) (by rw [h.plen]; omega) (fun k => by have := h.n n k; omega) with ⟨h0, h1⟩ | ⟨h0, h2, h1⟩ | ⟨h0, h2, h1⟩
    · exact .inr ⟨16, by decide, h1, .inr ⟨n, rfl, hn, .inl ⟨by rw [e]; exact h0, rfl⟩⟩⟩
    · rw [h.vlen] at h2
      exact .inr ⟨7, by decide, h1, .inr ⟨n, rfl, hn, .inr ⟨by rw [e]; exact h0, h2, rfl⟩⟩⟩
    · rw [h.vlen] at h2
      refine .inl ⟨n, rfl, hn, by rw [e]; exact h0, h2, ?_⟩
      rw [h1]; unfold flushed; rw [e]
theorem deliver_step (h : NI W L A VL VA B x) (hW : W ≤ 1000) (hB : B ≤ 900000) {i k : Int} (h1 : VL + L ≤ 1000000) (h2 : VA + A ≤ 1152921504606846976) :
    (∃ (n m : Nat) (b : List GChange) (r : List (List GChange)), i = n ∧ k = m ∧ n < W ∧ m < W ∧ lk (ml x.Links) n m = b :: r ∧ m_view_Net_Deliver x i k = some (delivered x n m b, 0)) ∨
    ∃ e : Int, e ≠ 0 ∧ m_view_Net_Deliver x i k = some (x, e) ∧ ((((i < 0 ∨ (W : Int) ≤ i) ∨ k < 0 ∨ (W : Int) ≤ k) ∧ e = 6) ∨ ∃ n m : Nat, i = n ∧ k = m ∧ n < W ∧ m < W ∧ lk (ml x.Links) n m = [] ∧ e = 16) := by
  by_cases hw : (i < 0 ∨ (W : Int) ≤ i) ∨ k < 0 ∨ (W : Int) ≤ k
  · exact .inr ⟨6, by decide, deliver_out (by rw [h.vlen]; exact hw), .inl ⟨hw, rfl⟩⟩
  · obtain ⟨n, rfl⟩ : ∃ n : Nat, i = (n : Int) := ⟨i.toNat, by omega⟩
    obtain ⟨m, rfl⟩ : ∃ n : Nat, k = (n : Int) := ⟨k.toNat, by omega⟩
    have hn : n < W := by omega
    have hm : m < W := by omega
    have hv : m < x.Views.length := by rw [h.vlen]; exact hm
    have e := getD_in (d := []) hv
    rcases deliver_in (x := x) (i := n) (k := m) (by rw [h.vlen]; exact hn) hv (by rw [h.vlen]; omega) (by rw [h.plen]; omega) (by have := h.n n m; omega) with ⟨h3, h4⟩ | ⟨b, r, h3, h4⟩
    · exact .inr ⟨16, by decide, h4, .inr ⟨n, m, rfl, rfl, hn, hm, h3, rfl⟩⟩
    · have hg := (h.vg m).1
      have hb := h.b n m b (by rw [h3]; simp)
      rw [e] at hg
      refine .inl ⟨n, m, b, r, rfl, rfl, hn, hm, h3, ?_⟩
      rw [h4 ⟨by rw [List.length_append]; omega, by rw [absum_app]; omega⟩]
      unfold delivered; rw [e]
theorem NI.new {first : List GChange} {W : Nat} {most : Int} : NI W 0 0 first.length (absum first) 0 ⟨most, List.replicate W (nrm first), List.replicate W [], some []⟩ := by
  refine ⟨by simp, by simp, ⟨by simp [K.ml], by simp [K.ml], by simp [K.ml]⟩, fun l hl => ?_, fun i k => Nat.le_refl _, fun i k l hl => (by cases hl), fun l hl => ?_⟩
  · rw [(List.mem_replicate.1 hl).2]; exact ⟨Nat.le_refl _, Nat.le_refl _⟩
  · rw [(List.mem_replicate.1 hl).2]; exact ⟨⟨nrm_len _, nrm_abs _⟩, nrm_norm _⟩
theorem whole_new {first : List GChange} {W : Nat} {most : Int} {w : Nat} (hw : w < W) (a b : Int) : atp (whole ⟨most, List.replicate W (nrm first), List.replicate W [], some []⟩ w) a b = atp first a b := by
  have h1 : ∀ n, (List.replicate n ([] : List GChange)).flatten = [] := fun n => by induction n with | zero => rfl | succ n ih => simp [List.replicate_succ, ih]
  have h2 : ∀ n, atp (lto [] (w : Int) n) a b = 0 := fun n => by
    induction n with
    | zero => rfl
    | succ n ih => simp only [lto, atp_app, ih]; rfl
  simp only [whole, atp_app, h1, List.length_replicate, K.ml, Option.getD_some, h2]
  rw [getD_in (by simpa using hw), List.getElem_replicate, nrm_at]
  have : atp [] a b = 0 := rfl
  omega
theorem whole_idle {w : Nat} (h : (∀ l ∈ x.Pending, l = []) ∧ ml x.Links = []) (a b : Int) : atp (whole x w) a b = atp (x.Views.getD w []) a b := by
  have h1 : ∀ P : List (List GChange), (∀ l ∈ P, l = []) → P.flatten = [] := fun P => by
    induction P with
    | nil => intro _; rfl
    | cons p P ih => intro hp; rw [List.flatten_cons, hp p (by simp), ih fun l hl => hp l (by simp [hl])]; rfl
  have h2 : ∀ n, atp (lto [] (w : Int) n) a b = 0 := fun n => by
    induction n with
    | zero => rfl
    | succ n ih => simp only [lto, atp_app, ih]; rfl
  simp only [whole, atp_app, h1 _ h.1, h.2, h2]
  have : atp [] a b = 0 := rfl
  omega
end
end Go.Proofs.Ytcpageegmpjkiaa.K

namespace Go.Proofs.Ytcpageegmpjkiaa.K
open Go.RowKit Go.Lib

structure wf_GArr2_Int (x : GArr2_Int) : Prop where
  a0 : (inK .i64) x.a0
  a1 : (inK .i64) x.a1
theorem td_22 {ds : List D} (h : TD Try.prog 22 ds) : ∃ x : GArr2_Int, ds = enc_GArr2_Int x ∧ wf_GArr2_Int x := by
  obtain ⟨l, e, hl, hq⟩ := TD.of_array (enc := (encI .i64)) (Q := (inK .i64)) Try.underlying22 (fun {r} h => td_int Try.underlying3 h) h
  match l, hl with
  | [a0, a1], _ => exact ⟨⟨a0, a1⟩, e, ⟨hq a0 (by simp), hq a1 (by simp)⟩⟩
structure wf_GChange (x : GChange) : Prop where
  Loc : (inK .i64) x.Loc
  Time : (inK .i64) x.Time
  N : (inK .i64) x.N
theorem td_83 {ds : List D} (h : TD Try.prog 83 ds) : ∃ x : GChange, ds = enc_GChange x ∧ wf_GChange x := by
  have h0 := TD.of_struct Try.underlying83 h
  obtain ⟨p0, q0, e0, t0, h1⟩ := h0
  obtain ⟨x0, f0, w0⟩ := td_int Try.underlying3 t0
  obtain ⟨p1, q1, e1, t1, h2⟩ := h1
  obtain ⟨x1, f1, w1⟩ := td_int Try.underlying3 t1
  obtain ⟨p2, q2, e2, t2, h3⟩ := h2
  obtain ⟨x2, f2, w2⟩ := td_int Try.underlying3 t2
  have h3 : q2 = [] := h3
  refine ⟨⟨x0, x1, x2⟩, ?_, ⟨w0, w1, w2⟩⟩
  rw [e0, f0, e1, f1, e2, f2, h3]; rfl
structure wf_GOp_ (x : GOp_) : Prop where
  Kind : wfT x.Kind
  A : (inK .i64) x.A
  B : (inK .i64) x.B
  L : (wfL wf_GChange) x.L
theorem td_43 {ds : List D} (h : TD Try.prog 43 ds) : ∃ x : GOp_, ds = enc_GOp_ x ∧ wf_GOp_ x := by
  have h0 := TD.of_struct Try.underlying43 h
  obtain ⟨p0, q0, e0, t0, h1⟩ := h0
  obtain ⟨x0, f0, w0⟩ := td_u8 Try.underlying5 t0
  obtain ⟨p1, q1, e1, t1, h2⟩ := h1
  obtain ⟨x1, f1, w1⟩ := td_int Try.underlying3 t1
  obtain ⟨p2, q2, e2, t2, h3⟩ := h2
  obtain ⟨x2, f2, w2⟩ := td_int Try.underlying3 t2
  obtain ⟨p3, q3, e3, t3, h4⟩ := h3
  obtain ⟨x3, f3, w3⟩ := td_slice (enc := enc_GChange) (q := wf_GChange) Try.underlying23 (fun {r} h => td_83 h) t3
  have h4 : q3 = [] := h4
  refine ⟨⟨x0, x1, x2, x3⟩, ?_, ⟨w0, w1, w2, w3⟩⟩
  rw [e0, f0, e1, f1, e2, f2, e3, f3, h4]; rfl
end Go.Proofs.Ytcpageegmpjkiaa.K

namespace Go.Proofs.Ytcpageegmpjkiaa.K
open Go.RowKit Go.Lib
def chB (x : GChange) : Prop := -1099511627776 ≤ x.N ∧ x.N ≤ 1099511627776
theorem tover_ok {l : List GChange} (hl : l.length ≤ maxLen) : ∃ r, m_w26_Over l = some r ∧ (r = 1 ∨ r = 0 ∧ l.length ≤ 40 ∧ ∀ x ∈ l, chB x) := by
  unfold m_w26_Over
  by_cases h : 40 < l.length
  · rw [d_lt (by omega), cond_true]; exact ⟨1, rfl, .inl rfl⟩
  · rw [d_nlt (by omega), cond_false]
    have := loop1_0 (L := fun fu i => m_w26_Over_l1 l fu i) (n := l.length) (P := fun i o => ∃ r, o = some r ∧ (r = 1 ∨ r = 0 ∧ ∀ x ∈ l.drop i, chB x)) (by omega)
      (fun fu => by unfold m_w26_Over_l1; rw [d_nlt (by omega), cond_false]; exact ⟨0, rfl, .inr ⟨rfl, by simp⟩⟩)
      (fun fu i hi ih => by
        unfold m_w26_Over_l1
        rw [d_lt (by omega), cond_true, geti_lt hi, obind_some]
        by_cases h1 : l[i].N < -1099511627776
        · rw [d_lt h1, cond_true]; exact ⟨1, rfl, .inl rfl⟩
        · rw [d_nlt h1, cond_false, obind_some]
          by_cases h2 : 1099511627776 < l[i].N
          · rw [d_lt h2, cond_true]; exact ⟨1, rfl, .inl rfl⟩
          · rw [d_nlt h2, cond_false, inc_ok (by omega)]
            obtain ⟨r, e, q⟩ := ih
            refine ⟨r, e, q.imp id fun ⟨q1, q2⟩ => ⟨q1, fun x hx => ?_⟩⟩
            rw [drop_cons hi] at hx
            rcases List.mem_cons.1 hx with rfl | hx
            · exact ⟨by omega, by omega⟩
            · exact q2 x hx)
    obtain ⟨r, e, q⟩ := this
    exact ⟨r, e, q.imp id fun ⟨q1, q2⟩ => ⟨q1, by omega, by simpa using q2⟩⟩
theorem town_ok {l : List GChange} (hl : l.length ≤ 100000000) : m_w26_Own l = some l := by
  have := map_loop (L := fun fu s i => m_w26_Own_l0 l fu s i) (l := l) (f := id) (e := id) (by omega) (fun fu s => by unfold m_w26_Own_l0; rw [d_nlt (by omega)]; rfl)
    (fun fu s i h hs => by
      conv => lhs; unfold m_w26_Own_l0
      rw [d_lt (by omega), cond_true, geti_lt h, obind_some, app_ok (by simp; omega), obind_some, inc_ok (by omega)]; rfl)
  rw [List.map_id] at this; exact this
theorem chB_abs : ∀ {l : List GChange}, (∀ x ∈ l, chB x) → absum l ≤ l.length * 1099511627776
  | [], _ => by simp [absum]
  | x :: l, h => by
    have := chB_abs (l := l) fun y hy => h y (by simp [hy])
    obtain ⟨h1, h2⟩ := h x (by simp)
    simp only [absum, List.length_cons, Nat.add_mul]; omega
/-- What a law's changes are. -/
theorem ch_half {l : List GChange} (hl : l.length ≤ 40) (h : ∀ x ∈ l, chB x) : l.length ≤ 500000 ∧ absum l ≤ 576460752303423488 := by
  have := chB_abs h
  have : l.length * 1099511627776 ≤ 40 * 1099511627776 := Nat.mul_le_mul_right _ hl
  omega
theorem half_small {l : List GChange} (h : l.length ≤ 500000 ∧ absum l ≤ 576460752303423488) : small l := ⟨by omega, by omega⟩
end Go.Proofs.Ytcpageegmpjkiaa.K

namespace Go.Proofs.Ytcpageegmpjkiaa.K
open Go.RowKit Go.Lib
abbrev NIt (W i : Nat) (x : GNet) : Prop := NI W (40 * i) (43980465111040 * i) (40 + 560 * i) (43980465111040 + 615726511554560 * i) i x
theorem NIt.up {W i L A VL VA B : Nat} {x : GNet} (hi : i ≤ 13) (h : NI W L A VL VA B x) (h1 : L ≤ 40 * i + 40) (h2 : A ≤ 43980465111040 * i + 43980465111040) (h3 : VL ≤ 40 + 560 * i + 40 * i) (h4 : VA ≤ 43980465111040 + 615726511554560 * i + 43980465111040 * i) (h5 : B ≤ i + 1) : NIt W (i + 1) x :=
  h.mono (by omega) (by omega) (by omega) (by omega) (by omega)
/-- What is known at each round. -/
structure TI (W i : Nat) (x : GNet) (T : List GChange) : Prop where
  ni : NIt W i x
  len : T.length ≤ 40 + 40 * i
  abs : absum T ≤ 43980465111040 + 43980465111040 * i
  tot : ∀ w, w < W → ∀ a b, atp (whole x w) a b = atp T a b
theorem TI.small {W i : Nat} {x : GNet} {T : List GChange} (h : TI W i x T) (hi : i ≤ 14) : small T := ⟨by have := h.len; omega, by have := h.abs; omega⟩
theorem truth_l20 {W i : Nat} {p0 : GArr2_Int} {x : GNet} {T : List GChange} {k : Int → (List (List GChange)) → (List (List GChange)) → (Option (List (GArr2_Int × (List (List GChange))))) → (List GChange) → Int → Option Bool} {y : Int} (hp : p0.a0 = (W : Int)) (h : TI W i x T) (hi : i ≤ 14) (hW : W ≤ 16)
    (hk : k x.Cap x.Views x.Pending x.Links (nrm T) (IntKind.i64.wrap (y + 1)) = some true) : m_w29_ViewTruth_j18 p0 y x (nrm T) k = some true := by
  have hni := h.ni
  have hs := h.small hi
  have lT := nrm_len T
  unfold m_w29_ViewTruth_j18
  rw [decide_eq_false (by rw [hni.vlen, hp]; simp), cond_false]
  exact loop1_0 (L := fun fu j => m_w29_ViewTruth_l20 p0 y x (nrm T) k fu j) (n := W) (P := fun j o => o = some true) (by omega)
    (fun fu => by unfold m_w29_ViewTruth_l20; rw [d_nlt (by omega), cond_false, hk])
    (fun fu w hw ih => by
      have hB : W * (i * (40 * i)) ≤ 16 * (14 * 560) := Nat.mul_le_mul hW (Nat.mul_le_mul hi (by omega))
      have hB2 : W * (i * (43980465111040 * i)) ≤ 16 * (14 * 615726511554560) := Nat.mul_le_mul hW (Nat.mul_le_mul hi (by omega))
      have hC : W * (40 * i) ≤ 16 * 560 := Nat.mul_le_mul hW (by omega)
      have hC2 : W * (43980465111040 * i) ≤ 16 * 615726511554560 := Nat.mul_le_mul hW (by omega)
      obtain ⟨sm, ht⟩ := truth_in hni hw (by omega) (by omega) ⟨by omega, by omega⟩
      have e : nrm (whole x w) = nrm T := nrm_congr (h.tot w hw)
      have hv : w < x.Views.length := by rw [hni.vlen]; exact hw
      unfold m_w29_ViewTruth_l20
      rw [d_lt (by omega), cond_true, ht, obind_some, e, tsame_ok (by have := h.len; omega) (by have := h.len; omega), obind_some, decide_eq_true rfl, Bool.not_true, cond_false, idle_ok (by rw [hni.plen]; omega), obind_some, inc_ok (by omega)]
      by_cases hid : (∀ l ∈ x.Pending, l = []) ∧ ml x.Links = []
      · have hvg := hni.vg w
        have hx := getD_in (d := []) hv
        have e2 : x.Views[w] = nrm T := by
          rw [← hx]
          exact norm_unique hvg.2 (nrm_norm T) fun a b => by rw [nrm_at, ← h.tot w hw, whole_idle hid]
        rw [decide_eq_true hid, cond_true, geti_lt hv, obind_some, e2, tsame_ok (by have := h.len; omega) (by have := h.len; omega), obind_some, decide_eq_true rfl, Bool.not_true, cond_false]
        exact ih
      · rw [decide_eq_false hid, cond_false]; exact ih)
theorem truth_j16 {W i : Nat} {p0 : GArr2_Int} {x x' : GNet} {T : List GChange} {k : Int → (List (List GChange)) → (List (List GChange)) → (Option (List (GArr2_Int × (List (List GChange))))) → (List GChange) → Int → Option Bool} {y e : Int} (hp : p0.a0 = (W : Int)) (h : TI W (i + 1) x' T) (hi : i ≤ 13) (hW : W ≤ 16)
    (he : e ≠ 0 → x' = x) (hk : k x'.Cap x'.Views x'.Pending x'.Links (nrm T) (IntKind.i64.wrap (y + 1)) = some true) : m_w29_ViewTruth_j16 p0 y x.Cap x.Views x.Pending x.Links k (nrm T) x' e = some true := by
  unfold m_w29_ViewTruth_j16
  have hj := truth_l20 hp h (by omega) hW hk
  by_cases h0 : e = 0
  · rw [decide_eq_false (by omega), cond_false, hj]
  · obtain rfl := he h0
    rw [decide_eq_true h0, cond_true, h.ni.same (by omega) (by omega) (by omega) (by omega), obind_some, Bool.not_true, cond_false, hj]
theorem main_ViewTruth (p0 : GArr2_Int) (p1 : List GChange) (p2 : List GOp_) (h0 : wf_GArr2_Int p0) (h1 : wfL wf_GChange p1) (h2 : wfL wf_GOp_ p2) : m_w29_ViewTruth p0 p1 p2 = some true := by
  unfold m_w29_ViewTruth
  rw [awk29]
  obtain ⟨r, er, q⟩ := tover_ok h1.1
  rw [er, obind_some]
  rcases q with rfl | ⟨rfl, l1, b1⟩
  · rfl
  rw [d_nlt (by decide), cond_false]
  by_cases hl : 14 < p2.length
  · rw [d_lt (by omega), cond_true]; rfl
  rw [d_nlt (by omega), cond_false, town_ok (by omega), obind_some]
  have a1 := chB_abs b1
  have s1 : small p1 := half_small (ch_half l1 b1)
  by_cases hn : ¬ ((1 ≤ p0.a0 ∧ p0.a0 ≤ 16) ∧ 1 ≤ p0.a1 ∧ p0.a1 ≤ 4096)
  · rw [new_err hn, obind_some, decide_eq_true (by decide), cond_true]; rfl
  replace hn := Classical.not_not.1 hn
  rw [new_ok s1 hn, obind_some, decide_eq_false (by simp), cond_false, obind_some, normal_ok s1, obind_some]
  simp only []
  obtain ⟨W, hW⟩ : ∃ W : Nat, p0.a0 = (W : Int) := ⟨p0.a0.toNat, by omega⟩
  have hW16 : W ≤ 16 := by omega
  have key : ∀ (n fu i : Nat) (x : GNet) (T : List GChange), i + n = p2.length → n < fu → TI W i x T → m_w29_ViewTruth_l6 p0 p2 fu x.Cap x.Views x.Pending x.Links (nrm T) (i : Int) = some true := by
    intro n
    induction n with
    | zero =>
      intro fu i x T hi hf hT
      obtain ⟨fu, rfl⟩ : ∃ k, fu = k + 1 := ⟨fu - 1, by omega⟩
      unfold m_w29_ViewTruth_l6
      rw [d_nlt (by omega), cond_false, awk29]; rfl
    | succ n ih =>
      intro fu i x T hi hf hT
      obtain ⟨fu, rfl⟩ : ∃ k, fu = k + 1 := ⟨fu - 1, by omega⟩
      have hil : i < p2.length := by omega
      have hi13 : i ≤ 13 := by omega
      have hni := hT.ni
      have next : ∀ (x' : GNet) (T' : List GChange), TI W (i + 1) x' T' → (fun y7_d_0_6 y7_d_1_6 y7_d_2_6 y7_d_3_6 y9_6 y10_6 => m_w29_ViewTruth_l6 p0 p2 fu y7_d_0_6 y7_d_1_6 y7_d_2_6 y7_d_3_6 y9_6 y10_6) x'.Cap x'.Views x'.Pending x'.Links (nrm T') (IntKind.i64.wrap ((i : Int) + 1)) = some true := fun x' T' h' => by
        show m_w29_ViewTruth_l6 p0 p2 fu x'.Cap x'.Views x'.Pending x'.Links (nrm T') (IntKind.i64.wrap ((i : Int) + 1)) = some true
        rw [inc_ok (by omega)]
        exact ih fu (i + 1) x' T' (by omega) (by omega) h'
      have stay : TI W (i + 1) x T := ⟨NIt.up hi13 hni (by omega) (by omega) (by omega) (by omega) (by omega), by have := hT.len; omega, by have := hT.abs; omega, hT.tot⟩
      have hx : (⟨x.Cap, x.Views, x.Pending, x.Links⟩ : GNet) = x := rfl
      unfold m_w29_ViewTruth_l6
      rw [d_lt (by omega), cond_true, geti_lt hil, obind_some]
      obtain ⟨r, er, q⟩ := tover_ok (h2.2 _ (List.getElem_mem hil)).L.1
      rw [er, obind_some, awk29]
      rcases q with rfl | ⟨rfl, lL, bL⟩
      · rfl
      have aL := chB_abs bL
      rw [d_nlt (by decide), cond_false, obind_some]
      simp only [hx]
      by_cases k0 : ((p2[i].Kind.toNat : Nat) : Int) = 0
      · rw [decide_eq_true k0, cond_true, obind_some, obind_some, town_ok (by omega), obind_some]
        rcases note_step hni (by omega) (w := p2[i].A) (l := p2[i].L) (dl := 40) (da := 43980465111040) ⟨by omega, by omega⟩ (by omega) (by omega) with ⟨w, hw, hwW, hr⟩ | ⟨hw, hr⟩
        · have hN := hni.noted (w := w) (l := p2[i].L) (dl := 40) (da := 43980465111040) ⟨by omega, by omega⟩
          have hT' : TI W (i + 1) (noted x w p2[i].L) (T ++ p2[i].L) := ⟨NIt.up hi13 hN (by omega) (by omega) (by omega) (by omega) (by omega), by have := hT.len; rw [List.length_append]; omega, by have := hT.abs; rw [absum_app]; omega, fun k hk a b => by rw [whole_noted hni hwW, hT.tot k hk, atp_app]⟩
          have sT := hT.small (by omega)
          have e1 : nrm (nrm T ++ p2[i].L) = nrm (T ++ p2[i].L) := nrm_congr fun a b => by rw [atp_app, atp_app, nrm_at]
          have l3 := nrm_len T
          have a3 := nrm_abs T
          rw [hr, obind_some, decide_eq_true rfl, cond_true, obind_some, town_ok (by omega), obind_some, merge_ok ⟨by have := hT.len; rw [List.length_append]; omega, by have := hT.abs; rw [absum_app]; omega⟩, obind_some, e1]
          exact truth_j16 hW hT' hi13 hW16 (fun h => absurd rfl h) (next _ _ hT')
        · rw [hr, obind_some, decide_eq_false (by simp), cond_false]
          exact truth_j16 hW stay hi13 hW16 (fun _ => rfl) (next _ _ stay)
      · rw [decide_eq_false k0, cond_false, obind_some]
        by_cases k1 : ((p2[i].Kind.toNat : Nat) : Int) = 1
        · rw [decide_eq_true k1, cond_true, obind_some]
          rcases flush_step hni (by omega) (by omega) (w := p2[i].A) with ⟨w, hw, hwW, _, _, hr⟩ | ⟨e, he, hr, _⟩
          · have hT' : TI W (i + 1) (flushed x w) T := ⟨NIt.up hi13 (hni.flushed hwW) (by omega) (by omega) (by omega) (by omega) (by omega), by have := hT.len; omega, by have := hT.abs; omega, fun k hk a b => by rw [whole_flushed hni hwW hk, hT.tot k hk]⟩
            rw [hr, obind_some]
            exact truth_j16 hW hT' hi13 hW16 (fun h => absurd rfl h) (next _ _ hT')
          · rw [hr, obind_some]
            exact truth_j16 hW stay hi13 hW16 (fun _ => rfl) (next _ _ stay)
        · rw [decide_eq_false k1, cond_false, obind_some, obind_some]
          rcases deliver_step hni (by omega) (by omega) (i := p2[i].A) (k := p2[i].B) (by omega) (by omega) with ⟨a, m, b, r, ha, hm, haW, hmW, hb, hr⟩ | ⟨e, he, hr, _⟩
          · have hT' : TI W (i + 1) (delivered x a m b) T := ⟨NIt.up hi13 (hni.delivered haW hmW hb) (by omega) (by omega) (by omega) (by omega) (by omega), by have := hT.len; omega, by have := hT.abs; omega, fun k hk a' b' => by rw [whole_delivered hni haW hmW hb, hT.tot k hk]⟩
            rw [hr, obind_some]
            exact truth_j16 hW hT' hi13 hW16 (fun h => absurd rfl h) (next _ _ hT')
          · rw [hr, obind_some]
            exact truth_j16 hW stay hi13 hW16 (fun _ => rfl) (next _ _ stay)
  have e0 : p0.a0.toNat = W := by omega
  rw [e0]
  have hT : TI W 0 ⟨p0.a1, List.replicate W (nrm p1), List.replicate W [], some []⟩ p1 := ⟨NI.new.mono (by omega) (by omega) (by omega) (by omega) (by omega), by omega, by omega, fun w hw a b => whole_new hw a b⟩
  have hk := key p2.length 1152921504606846976 0 _ p1 (by omega) (by omega) hT
  clear key
  generalize (1152921504606846976 : Nat) = fu at hk ⊢
  exact hk
end Go.Proofs.Ytcpageegmpjkiaa.K
