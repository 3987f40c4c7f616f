/- The document's nets: plain. -/
import Derived.Test.YtcpageegmpjkiaaZA2
import Derived.Test.YtcpageegmpjkiaaZLM
set_option linter.unusedVariables false
set_option linter.unusedSimpArgs false
namespace Go.Proofs.Ytcpageegmpjkiaa.K
open Go.RowKit Go.Lib
theorem rleads_ok (a b : Int) : m_r27_Leads a b = some (leads a b) := by
  unfold m_r27_Leads leads
  by_cases h1 : 0 ≤ a
  · by_cases h2 : a ≤ b
    · rw [decide_eq_true h1, decide_eq_true h2]; rfl
    · rw [decide_eq_true h1, decide_eq_false h2]; rfl
  · rw [decide_eq_false h1]; rfl
theorem rof_ok {l : List GChange} (h : small l) (loc : Int) : m_r27_Of l loc = some (frn l loc) := by
  unfold m_r27_Of
  have hs := h.1
  have key := loopG_0 (L := fun fu s i => m_r27_Of_l0 l loc fu s i) (n := l.length) (P := fun i s o => o = some (max 0 (fmin (there l loc) (l.drop i) s))) (by omega)
    (fun fu s => by unfold m_r27_Of_l0; rw [d_nlt (by omega), cond_false]; simp [fmin])
    (fun fu s i hi ih => by
      unfold m_r27_Of_l0
      rw [d_lt (by omega), cond_true, geti_lt hi, obind_some, drop_cons hi, rleads_ok, obind_some, inc_ok (by omega)]
      unfold fmin
      by_cases h2 : leads l[i].Loc loc = true
      · rw [h2, cond_true, obind_some, obind_some, rat_ok h, obind_some]
        by_cases h1 : 0 < atp l l[i].Loc l[i].Time
        · rw [d_lt h1, cond_true, obind_some, ih, if_pos (by unfold there; rw [h2, decide_eq_true h1]; rfl)]
        · rw [d_nlt h1, cond_false, ih, if_neg (by unfold there; rw [h2, decide_eq_false h1]; simp)]
      · have h2 : leads l[i].Loc loc = false := by simpa using h2
        rw [h2, cond_false, ih, if_neg (by unfold there; rw [h2]; simp)]) 1099511627777
  rw [key, List.drop_zero]; rfl
theorem rmerge_ok {a b : List GChange} (h : small (a ++ b)) : m_r26_Merge a b = some (nrm (a ++ b)) := by
  have hl := h.1
  rw [List.length_append] at hl
  unfold m_r26_Merge
  rw [app_ok (by simp; omega), obind_some, app_ok (by simp; omega), obind_some, List.nil_append, rnormal_ok h, obind_some]
/-- The batches of a link. -/
def rl (on : List GBatch) (i k : Int) : List (List GChange) := (on.filter fun b => decide (b.From = i) && decide (b.To = k)).map (·.L)
theorem rl_app (a b : List GBatch) (i k : Int) : rl (a ++ b) i k = rl a i k ++ rl b i k := by simp [rl]
theorem rl_cons (c : GBatch) (a : List GBatch) (i k : Int) : rl (c :: a) i k = (if c.From = i ∧ c.To = k then [c.L] else []) ++ rl a i k := by
  unfold rl
  by_cases h : c.From = i ∧ c.To = k
  · rw [if_pos h, List.filter_cons_of_pos (by simp [h.1, h.2])]; rfl
  · rw [if_neg h, List.filter_cons_of_neg (by simp; exact fun h1 h2 => h ⟨h1, h2⟩)]; rfl
structure RL (W : Nat) (x : GNet) (y : GNet_) : Prop where
  cap : y.Cap = x.Cap
  views : y.Views = x.Views
  pend : y.Pending = x.Pending
  link : ∀ i k, lk (ml x.Links) i k = rl y.On i k
  rng : ∀ b ∈ y.On, (0 ≤ b.From ∧ b.From < W) ∧ 0 ≤ b.To ∧ b.To < W
theorem rthere_in {y : GNet_} {w : Nat} (h : w < y.Views.length) : m_r29_there y (w : Int) = some true := by
  unfold m_r29_there
  rw [decide_eq_true (by omega), cond_true, decide_eq_true (by omega)]
theorem rthere_out {y : GNet_} {w : Int} (h : w < 0 ∨ (y.Views.length : Int) ≤ w) : m_r29_there y w = some false := by
  unfold m_r29_there
  by_cases h0 : 0 ≤ w
  · rw [decide_eq_true h0, cond_true, decide_eq_false (by omega)]
  · rw [decide_eq_false h0, cond_false]
theorem rset_ok {l : List (List GChange)} {w : Nat} (h : w < l.length) (hl : l.length ≤ 1000000) (t : List GChange) : m_r29_set l (w : Int) t = some (l.set w t) := by
  unfold m_r29_set
  rw [app_ok (by simp; omega), obind_some, List.nil_append, geti_lt h, obind_some]; rfl
theorem rwaits_ok {y : GNet_} (h : y.On.length ≤ 1000000) (i k : Int) : m_r29_Waits y i k = some (((rl y.On i k).length : Nat) : Int) := by
  unfold m_r29_Waits
  have := loopG_0 (L := fun fu s j => m_r29_Waits_l0 y i k fu s j) (n := y.On.length) (P := fun j s o => ∀ n : Nat, s = (n : Int) → n ≤ j → o = some (((n + (rl (y.On.drop j) i k).length : Nat) : Int))) (by omega)
    (fun fu s n e hn => by
      unfold m_r29_Waits_l0
      rw [d_nlt (by omega), cond_false, List.drop_eq_nil_of_le (Nat.le_refl _), e]; simp [rl])
    (fun fu s j hj ih n e hn => by
      unfold m_r29_Waits_l0
      rw [d_lt (by omega), cond_true, geti_lt hj, obind_some, obind_some, drop_cons hj, rl_cons, inc_ok (by omega)]
      by_cases h1 : y.On[j].From = i
      · rw [decide_eq_true h1, cond_true]
        by_cases h2 : y.On[j].To = k
        · rw [decide_eq_true h2, cond_true, if_pos ⟨h1, h2⟩, e, inc_ok (by omega), ih _ (n + 1) rfl (by omega), List.length_append, List.length_singleton]
          congr 2; omega
        · rw [decide_eq_false h2, cond_false, if_neg (fun h => h2 h.2), ih _ n e (by omega)]; rfl
      · rw [decide_eq_false h1, cond_false, if_neg (fun h => h1 h.1), ih _ n e (by omega)]; rfl) 0
  rw [this 0 rfl (Nat.le_refl _), List.drop_zero, Nat.zero_add]
/-- The batches of a flush. -/
def bts (w : Int) (b : List GChange) : Nat → Nat → List GBatch
  | _, 0 => []
  | i, n + 1 => ⟨w, (i : Int), b⟩ :: bts w b (i + 1) n
theorem bts_rl (w : Int) (b : List GChange) : ∀ (n i : Nat) (j k : Int), rl (bts w b i n) j k = if j = w ∧ (i : Int) ≤ k ∧ k < i + n then [b] else []
  | 0, i, j, k => by rw [if_neg (by omega)]; rfl
  | n + 1, i, j, k => by
    unfold bts
    rw [rl_cons, bts_rl w b n (i + 1)]
    by_cases h1 : w = j ∧ (i : Int) = k
    · rw [if_pos h1, if_neg (by omega), if_pos (by omega)]; rfl
    · rw [if_neg h1]
      by_cases h2 : j = w ∧ ((i + 1 : Nat) : Int) ≤ k ∧ k < ((i + 1 : Nat) : Int) + n
      · rw [if_pos h2, if_pos (by omega)]; rfl
      · rw [if_neg h2, if_neg (by omega)]; rfl
theorem bts_rng {W : Nat} {w : Int} {b : List GChange} (hw : 0 ≤ w ∧ w < W) : ∀ (n i : Nat), i + n ≤ W → ∀ z ∈ bts w b i n, (0 ≤ z.From ∧ z.From < W) ∧ 0 ≤ z.To ∧ z.To < W
  | 0, i, _, z, hz => by cases hz
  | n + 1, i, hi, z, hz => by
    unfold bts at hz
    rcases List.mem_cons.1 hz with rfl | hz
    · exact ⟨hw, by simp only; omega, by simp only; omega⟩
    · exact bts_rng hw n (i + 1) (by omega) z hz
section
variable {W : Nat} {x : GNet} {y : GNet_}
theorem RL.noted (h : RL W x y) (w : Nat) (l : List GChange) : RL W (noted x w l) ⟨y.Cap, y.Views, y.Pending.set w (nrm (y.Pending.getD w [] ++ l)), y.On⟩ :=
  ⟨h.cap, h.views, by show y.Pending.set w _ = x.Pending.set w _; rw [h.pend], h.link, h.rng⟩
theorem RL.flushed (h : RL W x y) {w : Nat} (hw : w < W) (hv : x.Views.length = W) : RL W (flushed x w) ⟨y.Cap, y.Views, y.Pending.set w [], y.On ++ bts w (y.Pending.getD w []) 0 W⟩ := by
  refine ⟨h.cap, h.views, by show y.Pending.set w _ = x.Pending.set w _; rw [h.pend], fun i k => ?_, fun b hb => ?_⟩
  · show lk (flL w (x.Pending.getD w []) 0 x.Views.length (ml x.Links)) i k = _
    rw [flL_lk, rl_app, bts_rl, h.link, h.pend, hv]
    split <;> simp
  · rcases List.mem_append.1 hb with hb | hb
    · exact h.rng b hb
    · exact bts_rng (by omega) W 0 (by omega) b hb
theorem RL.delivered (h : RL W x y) (hl : LOK W (ml x.Links)) {i k : Nat} {K R : List GBatch} {c : GBatch} (he : y.On = K ++ c :: R) (hK : rl K i k = []) (hc : c.From = i ∧ c.To = k) (hi : i < W) (hk : k < W) :
    RL W (delivered x i k c.L) ⟨y.Cap, y.Views.set k (nrm (y.Views.getD k [] ++ c.L)), y.Pending, K ++ R⟩ ∧ lk (ml x.Links) i k = c.L :: rl R i k := by
  have e : ∀ i' k', rl y.On i' k' = rl K i' k' ++ ((if (i : Int) = i' ∧ (k : Int) = k' then [c.L] else []) ++ rl R i' k') := fun i' k' => by rw [he, rl_app, rl_cons, hc.1, hc.2]
  have e2 : lk (ml x.Links) i k = c.L :: rl R i k := by rw [h.link, e, hK, if_pos ⟨rfl, rfl⟩]; rfl
  refine ⟨⟨h.cap, by show y.Views.set k _ = x.Views.set k _; rw [h.views], h.pend, fun i' k' => ?_, fun b hb => h.rng b ?_⟩, e2⟩
  · show lk (dlL (ml x.Links) i k) i' k' = _
    rw [dlL_lk hl _ _ _ _ (by rw [e2]; simp), rl_app]
    by_cases h1 : (i : Int) = i' ∧ (k : Int) = k'
    · rw [if_pos h1, e2, ← h1.1, ← h1.2, hK]; rfl
    · rw [if_neg h1, h.link, e, if_neg h1]; rfl
  · rw [he]
    rcases List.mem_append.1 hb with hb | hb
    · exact List.mem_append.2 (.inl hb)
    · exact List.mem_append.2 (.inr (by simp [hb]))
theorem rnote_in {w : Nat} (hw : w < y.Views.length) (hp : w < y.Pending.length) (hl : y.Pending.length ≤ 1000000) {l : List GChange} (hs : small (y.Pending[w] ++ l)) : m_r29_Note y (w : Int) l = some (⟨y.Cap, y.Views, y.Pending.set w (nrm (y.Pending[w] ++ l)), y.On⟩, 0) := by
  unfold m_r29_Note
  rw [rthere_in hw, obind_some, Bool.not_true, cond_false, geti_lt hp, obind_some, rmerge_ok hs, obind_some, rset_ok hp hl, obind_some]
theorem rnote_out {w : Int} {l : List GChange} (h : w < 0 ∨ (y.Views.length : Int) ≤ w) : m_r29_Note y w l = some (y, 6) := by
  unfold m_r29_Note
  rw [rthere_out h, obind_some]; rfl
theorem rflush_out {w : Int} (h : w < 0 ∨ (y.Views.length : Int) ≤ w) : m_r29_Flush y w = some (y, 6) := by
  unfold m_r29_Flush
  rw [rthere_out h, obind_some]; rfl
theorem rflush_mt {w : Nat} (hw : w < y.Views.length) (hp : w < y.Pending.length) (h : y.Pending[w] = []) : m_r29_Flush y (w : Int) = some (y, 16) := by
  unfold m_r29_Flush
  rw [rthere_in hw, obind_some, Bool.not_true, cond_false, geti_lt hp, obind_some, decide_eq_true (by simp [h]), cond_true]
theorem rflush_l3 {w : Nat} (hp : w < y.Pending.length) (hl : y.Pending.length ≤ 1000000) (hv : y.Views.length ≤ 1000000) (ho : y.On.length ≤ 1000000) : ∀ (n i fu : Nat) (on : List GBatch), i + n = y.Views.length → n < fu → on.length ≤ 1000000 + i →
    ((∃ k : Nat, i ≤ k ∧ k < y.Views.length ∧ y.Cap ≤ (rl y.On w k).length) → m_r29_Flush_l3 y (w : Int) fu on (i : Int) = some (y, 7)) ∧
    ((∀ k : Nat, i ≤ k → k < y.Views.length → ((rl y.On w k).length : Int) < y.Cap) → m_r29_Flush_l3 y (w : Int) fu on (i : Int) = some (⟨y.Cap, y.Views, y.Pending.set w [], on ++ bts w y.Pending[w] i n⟩, 0))
  | 0, i, fu, on, hi, hf, hon => by
    obtain ⟨fu, rfl⟩ : ∃ k, fu = k + 1 := ⟨fu - 1, by omega⟩
    refine ⟨fun ⟨k, _⟩ => by omega, fun _ => ?_⟩
    unfold m_r29_Flush_l3
    rw [d_nlt (by omega), cond_false, rset_ok hp hl, obind_some]
    simp [bts]
  | n + 1, i, fu, on, hi, hf, hon => by
    obtain ⟨fu, rfl⟩ : ∃ k, fu = k + 1 := ⟨fu - 1, by omega⟩
    have ih := rflush_l3 hp hl hv ho n (i + 1) fu (on ++ [⟨(w : Int), (i : Int), y.Pending[w]⟩]) (by omega) (by omega) (by simp; omega)
    have e : m_r29_Flush_l3 y (w : Int) (fu + 1) on (i : Int) = cond (decide (y.Cap ≤ ((rl y.On w i).length : Nat))) (some (y, 7)) (m_r29_Flush_l3 y (w : Int) fu (on ++ [⟨(w : Int), (i : Int), y.Pending[w]⟩]) ((i + 1 : Nat) : Int)) := by
      conv => lhs; unfold m_r29_Flush_l3
      rw [d_lt (by omega), cond_true, rwaits_ok ho, obind_some, geti_lt hp, obind_some, app_ok (by simp; omega), obind_some, inc_ok (by omega)]
    rw [e]
    refine ⟨fun ⟨k, h1, h2, h3⟩ => ?_, fun hall => ?_⟩
    · by_cases hc : y.Cap ≤ ((rl y.On w i).length : Nat)
      · rw [decide_eq_true hc, cond_true]
      · rw [decide_eq_false hc, cond_false]
        refine ih.1 ⟨k, ?_, h2, h3⟩
        rcases Nat.lt_or_ge i k with h | h
        · omega
        · have : k = i := by omega
          rw [this] at h3; exact absurd h3 hc
    · have := hall i (Nat.le_refl _) (by omega)
      rw [decide_eq_false (by omega), cond_false, ih.2 fun k h1 h2 => hall k (by omega) h2, List.append_assoc]
      rfl
theorem rflush_in {w : Nat} (hw : w < y.Views.length) (hp : w < y.Pending.length) (hl : y.Pending.length ≤ 1000000) (hv : y.Views.length ≤ 1000000) (ho : y.On.length ≤ 1000000) (hne : y.Pending[w] ≠ []) :
    ((∃ k : Nat, k < y.Views.length ∧ y.Cap ≤ (rl y.On w k).length) → m_r29_Flush y (w : Int) = some (y, 7)) ∧
    ((∀ k : Nat, k < y.Views.length → ((rl y.On w k).length : Int) < y.Cap) → m_r29_Flush y (w : Int) = some (⟨y.Cap, y.Views, y.Pending.set w [], y.On ++ bts w y.Pending[w] 0 y.Views.length⟩, 0)) := by
  have e : m_r29_Flush y (w : Int) = m_r29_Flush_l3 y (w : Int) 1152921504606846976 y.On ((0 : Nat) : Int) := by
    have h0 : ¬ ((List.length y.Pending[w] : Nat) : Int) = 0 := fun h => hne (List.eq_nil_of_length_eq_zero (by omega))
    unfold m_r29_Flush
    rw [rthere_in hw, obind_some, Bool.not_true, cond_false, geti_lt hp, obind_some, decide_eq_false h0, cond_false, app_ok (by simp; omega), obind_some, List.nil_append]; rfl
  have k := rflush_l3 hp hl hv ho y.Views.length 0 1152921504606846976 y.On (by omega) (by omega) (by omega)
  rw [e]
  exact ⟨fun ⟨j, h1, h2⟩ => k.1 ⟨j, by omega, h1, h2⟩, fun h => k.2 fun j _ h2 => h j h2⟩
theorem rdeliver_out {i k : Int} (h : (i < 0 ∨ (y.Views.length : Int) ≤ i) ∨ k < 0 ∨ (y.Views.length : Int) ≤ k) : m_r29_Deliver y i k = some (y, 6) := by
  unfold m_r29_Deliver
  by_cases h1 : i < 0 ∨ (y.Views.length : Int) ≤ i
  · rw [rthere_out h1, obind_some]; rfl
  · obtain ⟨j, rfl⟩ : ∃ j : Nat, i = (j : Int) := ⟨i.toNat, by omega⟩
    rw [rthere_in (by omega), obind_some, Bool.not_true, cond_false, rthere_out (by omega), obind_some]; rfl
theorem rdeliver_in {i k : Nat} (hi : i < y.Views.length) (hk : k < y.Views.length) (hv : y.Views.length ≤ 1000000) (ho : y.On.length ≤ 1000000) :
    (rl y.On i k = [] → m_r29_Deliver y (i : Int) (k : Int) = some (y, 16)) ∧
    (rl y.On i k ≠ [] → ∃ (K : List GBatch) (c : GBatch) (R : List GBatch), y.On = K ++ c :: R ∧ rl K i k = [] ∧ (c.From = i ∧ c.To = k) ∧ (small (y.Views[k] ++ c.L) → m_r29_Deliver y (i : Int) (k : Int) = some (⟨y.Cap, y.Views.set k (nrm (y.Views[k] ++ c.L)), y.Pending, K ++ R⟩, 0))) := by
  have e0 : m_r29_Deliver y (i : Int) (k : Int) = m_r29_Deliver_l1 y (i : Int) (k : Int) 1152921504606846976 0 := by
    unfold m_r29_Deliver
    rw [rthere_in hi, obind_some, Bool.not_true, cond_false, rthere_in hk, obind_some, Bool.not_true, cond_false]
  rw [e0]
  exact loop1_0 (L := fun fu j => m_r29_Deliver_l1 y (i : Int) (k : Int) fu j) (n := y.On.length) (P := fun j o => rl (y.On.take j) i k = [] → (rl y.On i k = [] → o = some (y, 16)) ∧
      (rl y.On i k ≠ [] → ∃ (K : List GBatch) (c : GBatch) (R : List GBatch), y.On = K ++ c :: R ∧ rl K i k = [] ∧ (c.From = i ∧ c.To = k) ∧ (small (y.Views[k] ++ c.L) → o = some (⟨y.Cap, y.Views.set k (nrm (y.Views[k] ++ c.L)), y.Pending, K ++ R⟩, 0)))) (by omega)
    (fun fu ht => by
      rw [List.take_of_length_le (Nat.le_refl _)] at ht
      refine ⟨fun _ => ?_, fun h => absurd ht h⟩
      unfold m_r29_Deliver_l1
      rw [d_nlt (by omega), cond_false])
    (fun fu j hj ih ht => by
      have hsplit : y.On = y.On.take j ++ y.On[j] :: y.On.drop (j + 1) := by rw [← drop_cons hj, List.take_append_drop]
      unfold m_r29_Deliver_l1
      rw [d_lt (by omega), cond_true, geti_lt hj, obind_some, obind_some, inc_ok (by omega)]
      have htk : ∀ (_ : ¬ (y.On[j].From = (i : Int) ∧ y.On[j].To = (k : Int))), rl (y.On.take (j + 1)) i k = [] := fun hn => by
        rw [take_snoc hj, rl_app, ht, rl_cons, if_neg hn]; rfl
      by_cases h1 : y.On[j].From = (i : Int)
      · rw [decide_eq_true h1, cond_true]
        by_cases h2 : y.On[j].To = (k : Int)
        · rw [decide_eq_true h2, cond_true]
          refine ⟨fun hn => ?_, fun _ => ⟨_, _, _, hsplit, ht, ⟨h1, h2⟩, fun hs => ?_⟩⟩
          · rw [hsplit, rl_app, rl_cons, if_pos ⟨h1, h2⟩] at hn; simp at hn
          · rw [geti_lt hk, obind_some, obind_some, rmerge_ok hs, obind_some, rset_ok hk hv, obind_some, cut_0 (by omega), obind_some, app_ok (by simp; omega), obind_some, cut_ok (by omega) (Nat.le_refl _), obind_some, app_ok (by simp; omega), obind_some, List.nil_append]
            have : (y.On.drop (j + 1)).take (y.On.length - (j + 1)) = y.On.drop (j + 1) := List.take_of_length_le (by simp)
            rw [this]
        · rw [decide_eq_false h2, cond_false]; exact ih (htk fun h => h2 h.2)
      · rw [decide_eq_false h1, cond_false]; exact ih (htk fun h => h1 h.1)) (by simp [rl])
end
end Go.Proofs.Ytcpageegmpjkiaa.K

namespace Go.Proofs.Ytcpageegmpjkiaa.K
open Go.RowKit Go.Lib
def sumZ (f : Nat → Int) : Nat → Int
  | 0 => 0
  | n + 1 => sumZ f n + f n
theorem sumZ_add {f g h : Nat → Int} (e : ∀ i, h i = f i + g i) : ∀ n, sumZ h n = sumZ f n + sumZ g n
  | 0 => rfl
  | n + 1 => by have := sumZ_add e n; have := e n; simp only [sumZ]; omega
theorem sumZ_congr {f g : Nat → Int} : ∀ {n : Nat}, (∀ i, i < n → f i = g i) → sumZ f n = sumZ g n
  | 0, _ => rfl
  | n + 1, h => by simp only [sumZ]; rw [sumZ_congr fun i hi => h i (by omega), h n (by omega)]
theorem sumZ_one {f : Nat → Int} {k : Nat} {d : Int} (h : ∀ i, f i = if i = k then d else 0) : ∀ n, sumZ f n = if k < n then d else 0
  | 0 => by simp [sumZ]
  | n + 1 => by
    have ih := sumZ_one h n
    have := h n
    simp only [sumZ]
    by_cases h1 : n = k
    · subst h1; rw [if_pos rfl] at this; rw [if_neg (by omega)] at ih; rw [if_pos (by omega)]; omega
    · rw [if_neg h1] at this
      by_cases h2 : k < n
      · rw [if_pos h2] at ih; rw [if_pos (by omega)]; omega
      · rw [if_neg h2] at ih; rw [if_neg (by omega)]; omega
theorem sumZ_le {f : Nat → Int} {B : Int} (h : ∀ i, f i ≤ B) (hB : 0 ≤ B) : ∀ n : Nat, sumZ f n ≤ n * B
  | 0 => by simp [sumZ]
  | n + 1 => by
    have := sumZ_le h hB n
    have := h n
    have e : ((n + 1 : Nat) : Int) * B = n * B + B := by rw [Int.natCast_succ, Int.add_mul, Int.one_mul]
    simp only [sumZ]; omega
/-- What is on its way to a worker, in the order that it was sent. -/
def sel (on : List GBatch) (w : Int) : List (List GChange) := (on.filter fun b => decide (b.To = w)).map (·.L)
theorem sel_cons (c : GBatch) (on : List GBatch) (w : Int) : sel (c :: on) w = (if c.To = w then [c.L] else []) ++ sel on w := by
  unfold sel
  by_cases h : c.To = w
  · rw [if_pos h, List.filter_cons_of_pos (by simp [h])]; rfl
  · rw [if_neg h, List.filter_cons_of_neg (by simp [h])]; rfl
theorem sel_app (a b : List GBatch) (w : Int) : sel (a ++ b) w = sel a w ++ sel b w := by simp [sel]
theorem sel_at {W : Nat} : ∀ {on : List GBatch}, (∀ b ∈ on, (0 ≤ b.From ∧ b.From < W) ∧ 0 ≤ b.To ∧ b.To < W) → ∀ (w : Int) (a b : Int), atp (sel on w).flatten a b = sumZ (fun f => atp (rl on f w).flatten a b) W
  | [], h, w, a, b => by
    have : sumZ (fun f => atp (rl [] f w).flatten a b) W = 0 := by
      have := sumZ_one (f := fun f => atp (rl [] f w).flatten a b) (k := 0) (d := 0) (fun i => by rw [ite_self]; rfl) W
      rw [this]; split <;> rfl
    rw [this]; rfl
  | c :: on, h, w, a, b => by
    have ih := sel_at (on := on) (fun b hb => h b (by simp [hb])) w a b
    have hc := h c (by simp)
    obtain ⟨f0, hf0⟩ : ∃ f0 : Nat, c.From = (f0 : Int) := ⟨c.From.toNat, by omega⟩
    rw [sel_cons, List.flatten_append, atp_app, ih]
    by_cases hw : c.To = w
    · rw [if_pos hw]
      have e := sumZ_add (f := fun f => if f = f0 then atp c.L a b else 0) (g := fun f => atp (rl on f w).flatten a b) (h := fun f => atp (rl (c :: on) f w).flatten a b) (fun i => by
        show atp (rl (c :: on) i w).flatten a b = _
        rw [rl_cons, List.flatten_append, atp_app]
        by_cases hi : i = f0
        · subst hi; rw [if_pos ⟨hf0, hw⟩, if_pos rfl]; simp
        · rw [if_neg (by omega), if_neg hi]; rfl) W
      rw [e, sumZ_one (k := f0) (d := atp c.L a b) (fun i => rfl) W, if_pos (by omega)]
      simp
    · rw [if_neg hw]
      have e : sumZ (fun f => atp (rl (c :: on) f w).flatten a b) W = sumZ (fun f => atp (rl on f w).flatten a b) W := sumZ_congr fun i _ => by rw [rl_cons, if_neg (fun h => hw h.2)]; rfl
      rw [e]
      show atp [] a b + _ = _
      have : atp [] a b = 0 := rfl
      omega
theorem sel_len {W : Nat} : ∀ {on : List GBatch}, (∀ b ∈ on, (0 ≤ b.From ∧ b.From < W) ∧ 0 ≤ b.To ∧ b.To < W) → ∀ (w : Int), (((sel on w).length : Nat) : Int) = sumZ (fun f => (((rl on f w).length : Nat) : Int)) W
  | [], h, w => by
    have := sumZ_one (f := fun f => (((rl [] f w).length : Nat) : Int)) (k := 0) (d := 0) (fun i => by rw [ite_self]; rfl) W
    rw [this]; split <;> rfl
  | c :: on, h, w => by
    have ih := sel_len (on := on) (fun b hb => h b (by simp [hb])) w
    have hc := h c (by simp)
    obtain ⟨f0, hf0⟩ : ∃ f0 : Nat, c.From = (f0 : Int) := ⟨c.From.toNat, by omega⟩
    rw [sel_cons, List.length_append]
    by_cases hw : c.To = w
    · rw [if_pos hw]
      have e := sumZ_add (f := fun f => if f = f0 then (1 : Int) else 0) (g := fun f => (((rl on f w).length : Nat) : Int)) (h := fun f => (((rl (c :: on) f w).length : Nat) : Int)) (fun i => by
        show (((rl (c :: on) i w).length : Nat) : Int) = _
        rw [rl_cons, List.length_append]
        by_cases hi : i = f0
        · subst hi; rw [if_pos ⟨hf0, hw⟩, if_pos rfl]; simp
        · rw [if_neg (by omega), if_neg hi]; simp) W
      rw [e, sumZ_one (k := f0) (d := 1) (fun i => rfl) W, if_pos (by omega)]
      simp only [List.length_singleton]; omega
    · rw [if_neg hw]
      have e : sumZ (fun f => (((rl (c :: on) f w).length : Nat) : Int)) W = sumZ (fun f => (((rl on f w).length : Nat) : Int)) W := sumZ_congr fun i _ => by rw [rl_cons, if_neg (fun h => hw h.2)]; rfl
      rw [e]; simp only [List.length_nil]; omega
/-- All that is on its way. -/
theorem on_len {W : Nat} : ∀ {on : List GBatch}, (∀ b ∈ on, (0 ≤ b.From ∧ b.From < W) ∧ 0 ≤ b.To ∧ b.To < W) → ((on.length : Nat) : Int) = sumZ (fun i => sumZ (fun k => (((rl on i k).length : Nat) : Int)) W) W
  | [], h => by
    have h1 : ∀ i : Nat, sumZ (fun k => (((rl [] i k).length : Nat) : Int)) W = 0 := fun i => by
      have := sumZ_one (f := fun k => (((rl [] i k).length : Nat) : Int)) (k := 0) (d := 0) (fun i => by rw [ite_self]; rfl) W
      rw [this]; split <;> rfl
    have := sumZ_one (f := fun i => sumZ (fun k => (((rl [] i k).length : Nat) : Int)) W) (k := 0) (d := 0) (fun i => by rw [h1, ite_self]) W
    rw [this]; split <;> rfl
  | c :: on, h => by
    have ih := on_len (on := on) (fun b hb => h b (by simp [hb]))
    have hc := h c (by simp)
    obtain ⟨f0, hf0⟩ : ∃ f0 : Nat, c.From = (f0 : Int) := ⟨c.From.toNat, by omega⟩
    obtain ⟨t0, ht0⟩ : ∃ t0 : Nat, c.To = (t0 : Int) := ⟨c.To.toNat, by omega⟩
    have e := sumZ_add (f := fun i => if i = f0 then (1 : Int) else 0) (g := fun i => sumZ (fun k => (((rl on i k).length : Nat) : Int)) W) (h := fun i => sumZ (fun k => (((rl (c :: on) i k).length : Nat) : Int)) W) (fun i => by
      show sumZ (fun k => (((rl (c :: on) i k).length : Nat) : Int)) W = _
      by_cases hi : i = f0
      · subst hi
        have e2 := sumZ_add (f := fun k => if k = t0 then (1 : Int) else 0) (g := fun k => (((rl on i k).length : Nat) : Int)) (h := fun k => (((rl (c :: on) i k).length : Nat) : Int)) (fun k => by
          show (((rl (c :: on) i k).length : Nat) : Int) = _
          rw [rl_cons, List.length_append]
          by_cases hk : k = t0
          · subst hk; rw [if_pos ⟨hf0, ht0⟩, if_pos rfl]; simp
          · rw [if_neg (by omega), if_neg hk]; simp) W
        rw [e2, sumZ_one (k := t0) (d := 1) (fun i => rfl) W, if_pos (by omega), if_pos rfl]
      · rw [if_neg hi, Int.zero_add]
        exact sumZ_congr fun k _ => by rw [rl_cons, if_neg (by omega)]; rfl) W
    rw [e, sumZ_one (k := f0) (d := 1) (fun i => rfl) W, if_pos (by omega), ← ih, List.length_cons]; omega
theorem on_le {W B : Nat} {on : List GBatch} (hr : ∀ b ∈ on, (0 ≤ b.From ∧ b.From < W) ∧ 0 ≤ b.To ∧ b.To < W) (hn : ∀ i k : Int, (rl on i k).length ≤ B) : on.length ≤ W * (W * B) := by
  have h := on_len hr
  have h1 : ∀ i : Nat, sumZ (fun k => (((rl on i k).length : Nat) : Int)) W ≤ ((W * B : Nat) : Int) := fun i => by
    have := sumZ_le (f := fun k => (((rl on i k).length : Nat) : Int)) (B := (B : Int)) (fun k => by have := hn i k; omega) (by omega) W
    rw [Int.natCast_mul]; exact this
  have h2 := sumZ_le (f := fun i => sumZ (fun k => (((rl on i k).length : Nat) : Int)) W) (B := ((W * B : Nat) : Int)) h1 (by omega) W
  rw [← h, ← Int.natCast_mul] at h2
  omega
theorem sel_le {W B : Nat} {on : List GBatch} (hr : ∀ b ∈ on, (0 ≤ b.From ∧ b.From < W) ∧ 0 ≤ b.To ∧ b.To < W) (hn : ∀ i k : Int, (rl on i k).length ≤ B) (w : Int) : (sel on w).length ≤ W * B := by
  have h := sel_len hr w
  have h2 := sumZ_le (f := fun i => (((rl on i w).length : Nat) : Int)) (B := (B : Int)) (fun k => by have := hn k w; omega) (by omega) W
  rw [← h, ← Int.natCast_mul] at h2
  omega
theorem lto_sum (l : Lks) (w : Int) (a b : Int) : ∀ n, atp (lto l w n) a b = sumZ (fun f => atp (lk l f w).flatten a b) n
  | 0 => rfl
  | n + 1 => by simp only [lto, atp_app, sumZ]; rw [lto_sum l w a b n]
/-! ### Back -/
def bkK (l : Lks) (i k : Nat) : List GBatch := (lk l i k).map fun b => ⟨(i : Int), (k : Int), b⟩
def bkI (l : Lks) (i : Nat) : Nat → List GBatch
  | 0 => []
  | n + 1 => bkI l i n ++ bkK l i n
def bkA (l : Lks) (W : Nat) : Nat → List GBatch
  | 0 => []
  | n + 1 => bkA l W n ++ bkI l n W
theorem bkK_rl (l : Lks) (i k : Nat) (i' k' : Int) : rl (bkK l i k) i' k' = if (i : Int) = i' ∧ (k : Int) = k' then lk l i k else [] := by
  unfold bkK
  induction lk l i k with
  | nil => split <;> rfl
  | cons b r ih =>
    rw [List.map_cons, rl_cons, ih]
    by_cases h : (i : Int) = i' ∧ (k : Int) = k'
    · rw [if_pos h, if_pos h, if_pos h]; rfl
    · rw [if_neg h, if_neg h, if_neg h]; rfl
theorem bkI_rl (l : Lks) (i : Nat) (i' k' : Int) : ∀ n, rl (bkI l i n) i' k' = if (i : Int) = i' ∧ 0 ≤ k' ∧ k' < n then lk l i' k' else []
  | 0 => by rw [if_neg (by omega)]; rfl
  | n + 1 => by
    unfold bkI
    rw [rl_app, bkI_rl l i i' k' n, bkK_rl]
    by_cases h1 : (i : Int) = i' ∧ (n : Int) = k'
    · rw [if_pos h1, if_neg (by omega), if_pos (by omega), h1.1, h1.2]; rfl
    · rw [if_neg h1, List.append_nil]
      by_cases h2 : (i : Int) = i' ∧ 0 ≤ k' ∧ k' < n
      · rw [if_pos h2, if_pos (by omega)]
      · rw [if_neg h2, if_neg (by omega)]
theorem bkA_rl (l : Lks) (W : Nat) (i' k' : Int) : ∀ n, rl (bkA l W n) i' k' = if (0 ≤ i' ∧ i' < n) ∧ 0 ≤ k' ∧ k' < W then lk l i' k' else []
  | 0 => by rw [if_neg (by omega)]; rfl
  | n + 1 => by
    unfold bkA
    rw [rl_app, bkA_rl l W i' k' n, bkI_rl]
    by_cases h1 : (n : Int) = i' ∧ 0 ≤ k' ∧ k' < W
    · rw [if_pos h1, if_neg (by omega), if_pos (by omega)]; rfl
    · rw [if_neg h1, List.append_nil]
      by_cases h2 : (0 ≤ i' ∧ i' < n) ∧ 0 ≤ k' ∧ k' < W
      · rw [if_pos h2, if_pos (by omega)]
      · rw [if_neg h2, if_neg (by omega)]
theorem bkI_rng {l : Lks} {i : Nat} : ∀ {n : Nat}, ∀ b ∈ bkI l i n, b.From = i ∧ 0 ≤ b.To ∧ b.To < n
  | 0, b, h => by cases h
  | n + 1, b, h => by
    unfold bkI at h
    rcases List.mem_append.1 h with h | h
    · have := bkI_rng b h; omega
    · unfold bkK at h
      obtain ⟨z, _, rfl⟩ := List.mem_map.1 h
      refine ⟨rfl, ?_, ?_⟩ <;> simp only <;> omega
theorem bkA_rng {l : Lks} {W : Nat} : ∀ {n : Nat}, ∀ b ∈ bkA l W n, (0 ≤ b.From ∧ b.From < n) ∧ 0 ≤ b.To ∧ b.To < W
  | 0, b, h => by cases h
  | n + 1, b, h => by
    unfold bkA at h
    rcases List.mem_append.1 h with h | h
    · have := bkA_rng b h; omega
    · have := bkI_rng b h; omega
section
variable {W L A VL VA B : Nat} {x : GNet} {y : GNet_}
theorem back_ok (h : NI W L A VL VA B x) (hW : W ≤ 1000) (hL : L ≤ 1000000) (hV : VL ≤ 1000000) (hB : W * (W * B) ≤ 1000000) (hB1 : B ≤ 1000000) : m_w29_Back x = some ⟨x.Cap, x.Views, x.Pending, bkA (ml x.Links) W W⟩ := by
  have hlk : ∀ i k : Nat, i < W → k < W → (lk (ml x.Links) i k).length ≤ B := fun i k _ _ => h.n i k
  have lenK : ∀ i k, (bkK (ml x.Links) i k).length ≤ B := fun i k => by unfold bkK; rw [List.length_map]; exact h.n i k
  have lenI : ∀ i n, (bkI (ml x.Links) i n).length ≤ n * B := fun i n => by
    induction n with
    | zero => simp [bkI]
    | succ n ih => have := lenK i n; simp only [bkI, List.length_append, Nat.succ_mul]; omega
  have lenA : ∀ n, (bkA (ml x.Links) W n).length ≤ n * (W * B) := fun n => by
    induction n with
    | zero => simp [bkA]
    | succ n ih => have := lenI n W; simp only [bkA, List.length_append, Nat.succ_mul]; omega
  have bk : ∀ z : List GChange, z.length ≤ 1000000 → m_w26_Back z = some z := fun z hz => tback_ok (by omega)
  unfold m_w29_Back
  have outer := loopG_0 (L := fun fu (s : List (List GChange) × List GBatch) i => m_w29_Back_l0 x fu s.1 s.2 i) (n := W) (P := fun i s o => s.1 = x.Views.take i → s.2 = bkA (ml x.Links) W i → o = some ⟨x.Cap, x.Views, x.Pending, bkA (ml x.Links) W W⟩) (by omega)
    (fun fu s e1 e2 => by
      unfold m_w29_Back_l0
      rw [d_nlt (by rw [h.vlen]; omega), cond_false, e1, e2, List.take_of_length_le (by rw [h.vlen]; exact Nat.le_refl _)]
      have := loopG_0 (L := fun fu s i => m_w29_Back_l9 x x.Views (bkA (ml x.Links) W W) fu s i) (n := W) (P := fun i s o => s = x.Pending.take i → o = some ⟨x.Cap, x.Views, x.Pending, bkA (ml x.Links) W W⟩) (by omega)
        (fun fu s e => by
          unfold m_w29_Back_l9
          rw [d_nlt (by rw [h.plen]; omega), cond_false, e, List.take_of_length_le (by rw [h.plen]; exact Nat.le_refl _)])
        (fun fu s i hi ih e => by
          have hip : i < x.Pending.length := by rw [h.plen]; exact hi
          unfold m_w29_Back_l9
          rw [d_lt (by rw [h.plen]; omega), cond_true, geti_lt hip, obind_some, bk _ (by have := h.p _ (List.getElem_mem hip); omega), obind_some, app_ok (by rw [e]; simp; omega), obind_some, inc_ok (by omega)]
          exact ih _ (by rw [e, take_snoc hip])) []
      exact this (by simp))
    (fun fu s i hi ih e1 e2 => by
      have hiv : i < x.Views.length := by rw [h.vlen]; exact hi
      unfold m_w29_Back_l0
      rw [d_lt (by rw [h.vlen]; omega), cond_true, geti_lt hiv, obind_some, bk _ (by have := (h.v _ (List.getElem_mem hiv)).1; omega), obind_some, app_ok (by rw [e1]; simp; omega), obind_some, e1, e2, ← take_snoc hiv]
      have lA := lenA i
      have hmul : i * (W * B) + W * B ≤ W * (W * B) := by rw [← Nat.succ_mul]; exact Nat.mul_le_mul_right _ hi
      have mid := loopG_0 (L := fun fu2 s k => m_w29_Back_l3 x (x.Views.take (i + 1)) (i : Int) (fun y3_d_1_0 y3_d_3_0 y4_0 => m_w29_Back_l0 x fu y3_d_1_0 y3_d_3_0 y4_0) fu2 s k) (n := W) (P := fun k s o => s = bkA (ml x.Links) W i ++ bkI (ml x.Links) i k → o = some ⟨x.Cap, x.Views, x.Pending, bkA (ml x.Links) W W⟩) (by omega)
        (fun fu2 s e => by
          unfold m_w29_Back_l3
          rw [d_nlt (by rw [h.vlen]; omega), cond_false, inc_ok (by omega)]
          exact ih (x.Views.take (i + 1), s) rfl (by rw [e]; rfl))
        (fun fu2 s k hk ih2 e => by
          unfold m_w29_Back_l3
          rw [d_lt (by rw [h.vlen]; omega), cond_true]
          have hkk : k * B + B ≤ W * B := by rw [← Nat.succ_mul]; exact Nat.mul_le_mul_right _ hk
          have lI := lenI i k
          have inner := loopG_0 (L := fun fu3 s j => m_w29_Back_l5 x (i : Int) (k : Int) (fun y3_d_3_3 y5_3 => m_w29_Back_l3 x (x.Views.take (i + 1)) (i : Int) (fun y3_d_1_0 y3_d_3_0 y4_0 => m_w29_Back_l0 x fu y3_d_1_0 y3_d_3_0 y4_0) fu2 y3_d_3_3 y5_3) fu3 s j) (n := (lk (ml x.Links) i k).length) (P := fun j s o => s = bkA (ml x.Links) W i ++ bkI (ml x.Links) i k ++ ((lk (ml x.Links) i k).take j).map (fun b => ⟨(i : Int), (k : Int), b⟩) → o = some ⟨x.Cap, x.Views, x.Pending, bkA (ml x.Links) W W⟩) (by have := h.n i k; omega)
            (fun fu3 s e => by
              unfold m_w29_Back_l5
              rw [show (Option.getD (mlook (ml x.Links) (GArr2_Int.mk (i : Int) (k : Int))) []) = lk (ml x.Links) i k from rfl, obind_some, d_nlt (by omega), cond_false, inc_ok (by omega)]
              exact ih2 s (by rw [e, List.take_of_length_le (Nat.le_refl _), List.append_assoc]; rfl))
            (fun fu3 s j hj ih3 e => by
              have hbz := h.b i k _ (List.getElem_mem hj)
              have hn := h.n i k
              unfold m_w29_Back_l5
              rw [show (Option.getD (mlook (ml x.Links) (GArr2_Int.mk (i : Int) (k : Int))) []) = lk (ml x.Links) i k from rfl, obind_some, d_lt (by omega), cond_true, geti_lt hj, obind_some, bk _ (by omega), obind_some, app_ok (by rw [e]; simp only [List.length_append, List.length_map, List.length_take, List.length_singleton]; omega), obind_some, inc_ok (by omega)]
              exact ih3 _ (by rw [e, take_snoc hj, List.map_append, List.append_assoc]; rfl)) s
          exact inner (by rw [e]; simp)) (bkA (ml x.Links) W i)
      exact mid (by simp [bkI])) ([], [])
  exact outer (by simp) rfl
theorem rlink_ok (ho : y.On.length ≤ 1000000) (i k : Int) : m_r29_link y i k = some (rl y.On i k) := by
  unfold m_r29_link
  have := loopG_0 (L := fun fu s j => m_r29_link_l0 y i k fu s j) (n := y.On.length) (P := fun j s o => s.length ≤ j → o = some (s ++ rl (y.On.drop j) i k)) (by omega)
    (fun fu s hs => by
      unfold m_r29_link_l0
      rw [d_nlt (by omega), cond_false, List.drop_eq_nil_of_le (Nat.le_refl _)]; simp [rl])
    (fun fu s j hj ih hs => by
      unfold m_r29_link_l0
      rw [d_lt (by omega), cond_true, geti_lt hj, obind_some, obind_some, drop_cons hj, rl_cons, inc_ok (by omega)]
      by_cases h1 : y.On[j].From = i
      · rw [decide_eq_true h1, cond_true]
        by_cases h2 : y.On[j].To = k
        · rw [decide_eq_true h2, cond_true, if_pos ⟨h1, h2⟩, obind_some, app_ok (by simp; omega), obind_some, ih _ (by simp; omega), List.append_assoc]
        · rw [decide_eq_false h2, cond_false, if_neg (fun h => h2 h.2), ih _ (by omega)]; rfl
      · rw [decide_eq_false h1, cond_false, if_neg (fun h => h1 h.1), ih _ (by omega)]; rfl) []
  rw [this (Nat.zero_le _)]; simp
theorem rsameB_ok {l : List (List GChange)} (hl : l.length ≤ 1000000) (hs : ∀ z ∈ l, z.length ≤ 1000000) : m_r29_sameBatches l l = some true := by
  unfold m_r29_sameBatches
  rw [decide_eq_false (by simp), cond_false]
  exact loop1_0 (L := fun fu i => m_r29_sameBatches_l1 l l fu i) (n := l.length) (P := fun i o => o = some true) (by omega)
    (fun fu => by unfold m_r29_sameBatches_l1; rw [d_nlt (by omega), cond_false])
    (fun fu i hi ih => by
      have := hs _ (List.getElem_mem hi)
      unfold m_r29_sameBatches_l1
      rw [d_lt (by omega), cond_true, geti_lt hi, obind_some, obind_some, rsame_ok (by omega) (by omega), obind_some, decide_eq_true rfl, Bool.not_true, cond_false, inc_ok (by omega)]
      exact ih)
theorem rSame_ok (h : NI W L A VL VA B x) (hr : RL W x y) (hW : W ≤ 1000) (hL : L ≤ 1000000) (hV : VL ≤ 1000000) (hB : W * (W * B) ≤ 1000000) (hB1 : B ≤ 1000000) : m_r29_Same ⟨x.Cap, x.Views, x.Pending, bkA (ml x.Links) W W⟩ y = some true := by
  have hn : ∀ i k : Int, (rl y.On i k).length ≤ B := fun i k => by rw [← hr.link]; exact h.n i k
  have hrl : ∀ i k : Nat, i < W → k < W → rl (bkA (ml x.Links) W W) i k = rl y.On i k := fun i k hi hk => by rw [bkA_rl, if_pos (by omega), hr.link]
  have elen : (bkA (ml x.Links) W W).length = y.On.length := by
    have e1 := on_len (W := W) (on := bkA (ml x.Links) W W) (fun b hb => bkA_rng b hb)
    have e2 := on_len hr.rng
    have : sumZ (fun i => sumZ (fun k => (((rl (bkA (ml x.Links) W W) i k).length : Nat) : Int)) W) W = sumZ (fun i => sumZ (fun k => (((rl y.On i k).length : Nat) : Int)) W) W := sumZ_congr fun i hi => sumZ_congr fun k hk => by rw [hrl i k hi hk]
    omega
  have ho := on_le hr.rng hn
  unfold m_r29_Same
  rw [decide_eq_false (by rw [hr.cap]; simp), cond_false, decide_eq_false (by rw [hr.views]; simp), cond_false, decide_eq_false (by rw [hr.pend]; simp), cond_false, decide_eq_false (by simp only [elen]; simp), cond_false]
  exact loop1_0 (L := fun fu i => m_r29_Same_l2 ⟨x.Cap, x.Views, x.Pending, bkA (ml x.Links) W W⟩ y fu i) (n := W) (P := fun i o => o = some true) (by omega)
    (fun fu => by unfold m_r29_Same_l2; rw [d_nlt (by simp only [h.vlen]; omega), cond_false])
    (fun fu i hi ih => by
      have hiv : i < x.Views.length := by rw [h.vlen]; exact hi
      have hip : i < x.Pending.length := by rw [h.plen]; exact hi
      have v1 := (h.v _ (List.getElem_mem hiv)).1
      have p1 := h.p _ (List.getElem_mem hip)
      unfold m_r29_Same_l2
      rw [d_lt (by simp only [h.vlen]; omega), cond_true]
      simp only [hr.views, hr.pend]
      rw [geti_lt hiv, obind_some, obind_some, rsame_ok (by omega) (by omega), obind_some, decide_eq_true rfl, Bool.not_true, cond_false, geti_lt hip, obind_some, obind_some, rsame_ok (by omega) (by omega), obind_some, decide_eq_true rfl, Bool.not_true, cond_false]
      exact loop1_0 (L := fun fu2 k => m_r29_Same_l5 ⟨x.Cap, x.Views, x.Pending, bkA (ml x.Links) W W⟩ y (i : Int) (fun y5_2 => m_r29_Same_l2 ⟨x.Cap, x.Views, x.Pending, bkA (ml x.Links) W W⟩ y fu y5_2) fu2 k) (n := W) (P := fun k o => o = some true) (by omega)
        (fun fu2 => by
          unfold m_r29_Same_l5
          rw [d_nlt (by simp only [h.vlen]; omega), cond_false, inc_ok (by omega)]
          exact ih)
        (fun fu2 k hk ih2 => by
          unfold m_r29_Same_l5
          rw [d_lt (by simp only [h.vlen]; omega), cond_true, rlink_ok (by simp only [elen]; omega), obind_some, rlink_ok (by omega), obind_some]
          simp only [hrl i k hi hk]
          rw [rsameB_ok (by have := hn i k; omega) (fun z hz => by rw [← hr.link] at hz; have := h.b _ _ z hz; omega), obind_some, Bool.not_true, cond_false, inc_ok (by omega)]
          exact ih2))
theorem ridle_ok (h : NI W L A VL VA B x) (hr : RL W x y) (hW : W ≤ 1000) : m_r29_Idle y = some (decide ((∀ l ∈ x.Pending, l = []) ∧ ml x.Links = [])) := by
  have hon : y.On = [] ↔ ml x.Links = [] := by
    rw [lk_nil_iff h.lok]
    constructor
    · intro he i k; rw [hr.link, he]; rfl
    · intro he
      cases hy : y.On with
      | nil => rfl
      | cons b r =>
        have := he b.From b.To
        rw [hr.link, hy, rl_cons, if_pos ⟨rfl, rfl⟩] at this
        simp at this
  unfold m_r29_Idle
  have := loop1_0 (L := fun fu i => m_r29_Idle_l0 y fu i) (n := x.Pending.length) (P := fun i o => o = some (decide ((∀ l ∈ x.Pending.drop i, l = []) ∧ ml x.Links = []))) (by rw [h.plen]; omega)
    (fun fu => by
      unfold m_r29_Idle_l0
      rw [d_nlt (by rw [hr.pend]; omega), cond_false, List.drop_eq_nil_of_le (Nat.le_refl _)]
      congr 1
      refine decide_eq_decide.2 ⟨fun h0 => ⟨by simp, hon.1 (List.eq_nil_of_length_eq_zero (by omega))⟩, fun h0 => by rw [hon.2 h0.2]; rfl⟩)
    (fun fu i hi ih => by
      unfold m_r29_Idle_l0
      rw [d_lt (by rw [hr.pend]; omega), cond_true]
      simp only [hr.pend]
      rw [geti_lt hi, obind_some, drop_cons hi]
      by_cases h0 : x.Pending[i] = []
      · rw [decide_eq_false (by rw [h0]; simp), cond_false, inc_ok (by rw [h.plen] at hi; omega), ih]
        congr 1
        refine decide_eq_decide.2 ⟨fun h1 => ⟨fun l hl => ?_, h1.2⟩, fun h1 => ⟨fun l hl => h1.1 l (List.mem_cons_of_mem _ hl), h1.2⟩⟩
        rcases List.mem_cons.1 hl with rfl | hl
        · exact h0
        · exact h1.1 l hl
      · have hp : 0 < x.Pending[i].length := List.length_pos_iff.2 h0
        rw [decide_eq_true (by omega), cond_true, decide_eq_false (fun h1 => h0 (h1.1 _ List.mem_cons_self))])
  rw [this, List.drop_zero]
theorem rfront_ok (h : NI W L A VL VA B x) (hr : RL W x y) {w : Nat} (hw : w < W) (hs : small (x.Views.getD w [])) (loc : Int) : m_r29_Front y (w : Int) loc = some (frn (x.Views.getD w []) loc) := by
  have hv : w < y.Views.length := by rw [hr.views, h.vlen]; exact hw
  have hv' : w < x.Views.length := by rw [h.vlen]; exact hw
  have e := getD_in (d := []) hv'
  rw [e] at hs ⊢
  unfold m_r29_Front
  rw [rthere_in hv, obind_some, Bool.not_true, cond_false]
  simp only [hr.views]
  rw [geti_lt hv', obind_some, rof_ok hs, obind_some]
theorem rtruth_ok (h : NI W L A VL VA B x) (hr : RL W x y) {w : Nat} (hw : w < W) (hW : W ≤ 1000) (hB : W * (W * B) ≤ 1000000) (hs : VL + (W * L + W * (B * L)) ≤ 1000000 ∧ VA + (W * A + W * (B * A)) ≤ 1152921504606846976) : m_r29_Truth y (w : Int) = some (nrm (whole x w)) := by
  have hn : ∀ i k : Int, (rl y.On i k).length ≤ B := fun i k => by rw [← hr.link]; exact h.n i k
  have ho := on_le hr.rng hn
  have hsl := sel_le hr.rng hn (w : Int)
  have hv : w < y.Views.length := by rw [hr.views, h.vlen]; exact hw
  have hv' : w < x.Views.length := by rw [h.vlen]; exact hw
  have e := getD_in (d := []) hv'
  have hvg := h.vg w
  have hselb : ∀ z ∈ sel y.On (w : Int), z.length ≤ L ∧ absum z ≤ A := fun z hz => by
    unfold sel at hz
    obtain ⟨c, hc, rfl⟩ := List.mem_map.1 hz
    have hcm := List.mem_filter.1 hc
    refine h.b c.From c.To _ ?_
    rw [hr.link]
    unfold rl
    exact List.mem_map.2 ⟨c, List.mem_filter.2 ⟨hcm.1, by simp⟩, rfl⟩
  have eT : ∀ a b, atp (sel y.On (w : Int)).flatten a b = atp (lto (ml x.Links) w x.Views.length) a b := fun a b => by
    rw [lto_sum, h.vlen, sel_at hr.rng]
    exact sumZ_congr fun i _ => by rw [hr.link]
  have hflat := flat_len hselb
  have hpf := flat_len h.p
  rw [h.plen] at hpf
  have m1 := Nat.mul_le_mul_right L hsl
  have m2 := Nat.mul_le_mul_right A hsl
  rw [Nat.mul_assoc] at m1 m2
  have tkS : ∀ j, ∃ r, (sel y.On (w : Int)) = sel (y.On.take j) w ++ r := fun j => ⟨sel (y.On.drop j) w, by rw [← sel_app, List.take_append_drop]⟩
  have tkP : ∀ j, ∃ r, x.Pending = x.Pending.take j ++ r := fun j => ⟨x.Pending.drop j, by rw [List.take_append_drop]⟩
  have fin : m_r29_Truth y (w : Int) = m_r29_Truth_l2 y (w : Int) 1152921504606846976 x.Views[w] 0 := by
    unfold m_r29_Truth
    rw [rthere_in hv, obind_some, Bool.not_true, cond_false]
    simp only [hr.views]
    rw [geti_lt hv', obind_some]
  rw [fin]
  have hvs := hvg.1
  have hvn := hvg.2
  rw [e] at hvs hvn
  have loop := loopG_0 (L := fun fu s j => m_r29_Truth_l2 y (w : Int) fu s j) (n := y.On.length) (P := fun j s o => Norm s → (∀ a b, atp s a b = atp (x.Views[w] ++ (sel (y.On.take j) w).flatten) a b) → s.length ≤ (x.Views[w] ++ (sel (y.On.take j) w).flatten).length → absum s ≤ absum (x.Views[w] ++ (sel (y.On.take j) w).flatten) → o = some (nrm (whole x w))) (by omega)
    (fun fu s n1 n2 n3 n4 => by
      unfold m_r29_Truth_l2
      rw [d_nlt (by omega), cond_false]
      rw [List.take_of_length_le (Nat.le_refl _)] at n2 n3 n4
      have loop2 := loopG_0 (L := fun fu s j => m_r29_Truth_l6 y fu s j) (n := W) (P := fun j s o => Norm s → (∀ a b, atp s a b = atp (x.Views[w] ++ (sel y.On w).flatten ++ (x.Pending.take j).flatten) a b) → s.length ≤ (x.Views[w] ++ (sel y.On w).flatten ++ (x.Pending.take j).flatten).length → absum s ≤ absum (x.Views[w] ++ (sel y.On w).flatten ++ (x.Pending.take j).flatten) → o = some (nrm (whole x w))) (by omega)
        (fun fu s n1 n2 n3 n4 => by
          unfold m_r29_Truth_l6
          rw [d_nlt (by rw [hr.pend, h.plen]; omega), cond_false]
          congr 1
          refine (nrm_eq n1 fun a b => ?_).symm
          rw [n2, List.take_of_length_le (by rw [h.plen]; exact Nat.le_refl _)]
          unfold whole
          rw [e, atp_app, atp_app, atp_app, atp_app, eT]; omega)
        (fun fu s j hj ih n1 n2 n3 n4 => by
          have hjp : j < x.Pending.length := by rw [h.plen]; exact hj
          obtain ⟨r, er⟩ := tkP (j + 1)
          have l1 := congrArg (fun l => (List.flatten l).length) er
          have l2 := congrArg (fun l => absum (List.flatten l)) er
          have es : (x.Pending.take (j + 1)).flatten = (x.Pending.take j).flatten ++ x.Pending[j] := by rw [take_snoc hjp, List.flatten_append]; simp
          simp only [List.flatten_append, List.length_append, absum_app, es] at l1 l2
          simp only [List.length_append, absum_app] at n3 n4
          have sm : small (s ++ x.Pending[j]) := ⟨by rw [List.length_append]; omega, by rw [absum_app]; omega⟩
          have q1 := nrm_len (s ++ x.Pending[j])
          have q2 := nrm_abs (s ++ x.Pending[j])
          rw [List.length_append] at q1
          rw [absum_app] at q2
          unfold m_r29_Truth_l6
          rw [d_lt (by rw [hr.pend, h.plen]; omega), cond_true]
          simp only [hr.pend]
          rw [geti_lt hjp, obind_some, rmerge_ok sm, obind_some, inc_ok (by omega)]
          refine ih _ (nrm_norm _) (fun a b => ?_) ?_ ?_
          · rw [nrm_at, atp_app, n2, es, ← List.append_assoc, atp_app (_ ++ _ ++ _)]
          · rw [es]; simp only [List.length_append]; omega
          · rw [es]; simp only [absum_app]; omega) s
      exact loop2 n1 (fun a b => by rw [n2]; simp) (by simpa using n3) (by simpa using n4))
    (fun fu s j hj ih n1 n2 n3 n4 => by
      obtain ⟨r, er⟩ := tkS (j + 1)
      have l1 := congrArg (fun l => (List.flatten l).length) er
      have l2 := congrArg (fun l => absum (List.flatten l)) er
      have es : sel (y.On.take (j + 1)) w = sel (y.On.take j) w ++ (if y.On[j].To = (w : Int) then [y.On[j].L] else []) := by rw [take_snoc hj, sel_app, sel_cons]; simp [sel]
      unfold m_r29_Truth_l2
      rw [d_lt (by omega), cond_true, geti_lt hj, obind_some, obind_some, inc_ok (by omega)]
      by_cases ht : y.On[j].To = (w : Int)
      · rw [if_pos ht] at es
        simp only [List.flatten_append, List.length_append, absum_app, es, List.flatten_singleton] at l1 l2
        simp only [List.length_append, absum_app] at n3 n4
        have sm : small (s ++ y.On[j].L) := ⟨by rw [List.length_append]; omega, by rw [absum_app]; omega⟩
        have q1 := nrm_len (s ++ y.On[j].L)
        have q2 := nrm_abs (s ++ y.On[j].L)
        rw [List.length_append] at q1
        rw [absum_app] at q2
        rw [decide_eq_true ht, cond_true, rmerge_ok sm, obind_some]
        refine ih _ (nrm_norm _) (fun a b => ?_) ?_ ?_
        · rw [nrm_at, atp_app, n2, es, List.flatten_append, List.flatten_singleton, ← List.append_assoc, atp_app (_ ++ _)]
        · rw [es, List.flatten_append, List.flatten_singleton]; simp only [List.length_append]; omega
        · rw [es, List.flatten_append, List.flatten_singleton]; simp only [absum_app]; omega
      · rw [if_neg ht, List.append_nil] at es
        rw [decide_eq_false ht, cond_false]
        exact ih _ n1 (by rw [es]; exact n2) (by rw [es]; exact n3) (by rw [es]; exact n4)) x.Views[w]
  exact loop hvn (fun a b => by simp [sel]) (by simp [sel]) (by simp [sel])
end
end Go.Proofs.Ytcpageegmpjkiaa.K

namespace Go.Proofs.Ytcpageegmpjkiaa.K
open Go.RowKit Go.Lib

structure wf_GArr2_Int (x : GArr2_Int) : Prop where
  a0 : (inK .i64) x.a0
  a1 : (inK .i64) x.a1
theorem td_22 {ds : List D} (h : TD Try.prog 22 ds) : ∃ x : GArr2_Int, ds = enc_GArr2_Int x ∧ wf_GArr2_Int x := by
  obtain ⟨l, e, hl, hq⟩ := TD.of_array (enc := (encI .i64)) (Q := (inK .i64)) Try.underlying22 (fun {r} h => td_int Try.underlying3 h) h
  match l, hl with
  | [a0, a1], _ => exact ⟨⟨a0, a1⟩, e, ⟨hq a0 (by simp), hq a1 (by simp)⟩⟩
structure wf_GChange (x : GChange) : Prop where
  Loc : (inK .i64) x.Loc
  Time : (inK .i64) x.Time
  N : (inK .i64) x.N
theorem td_83 {ds : List D} (h : TD Try.prog 83 ds) : ∃ x : GChange, ds = enc_GChange x ∧ wf_GChange x := by
  have h0 := TD.of_struct Try.underlying83 h
  obtain ⟨p0, q0, e0, t0, h1⟩ := h0
  obtain ⟨x0, f0, w0⟩ := td_int Try.underlying3 t0
  obtain ⟨p1, q1, e1, t1, h2⟩ := h1
  obtain ⟨x1, f1, w1⟩ := td_int Try.underlying3 t1
  obtain ⟨p2, q2, e2, t2, h3⟩ := h2
  obtain ⟨x2, f2, w2⟩ := td_int Try.underlying3 t2
  have h3 : q2 = [] := h3
  refine ⟨⟨x0, x1, x2⟩, ?_, ⟨w0, w1, w2⟩⟩
  rw [e0, f0, e1, f1, e2, f2, h3]; rfl
structure wf_GOp_ (x : GOp_) : Prop where
  Kind : wfT x.Kind
  A : (inK .i64) x.A
  B : (inK .i64) x.B
  L : (wfL wf_GChange) x.L
theorem td_43 {ds : List D} (h : TD Try.prog 43 ds) : ∃ x : GOp_, ds = enc_GOp_ x ∧ wf_GOp_ x := by
  have h0 := TD.of_struct Try.underlying43 h
  obtain ⟨p0, q0, e0, t0, h1⟩ := h0
  obtain ⟨x0, f0, w0⟩ := td_u8 Try.underlying5 t0
  obtain ⟨p1, q1, e1, t1, h2⟩ := h1
  obtain ⟨x1, f1, w1⟩ := td_int Try.underlying3 t1
  obtain ⟨p2, q2, e2, t2, h3⟩ := h2
  obtain ⟨x2, f2, w2⟩ := td_int Try.underlying3 t2
  obtain ⟨p3, q3, e3, t3, h4⟩ := h3
  obtain ⟨x3, f3, w3⟩ := td_slice (enc := enc_GChange) (q := wf_GChange) Try.underlying23 (fun {r} h => td_83 h) t3
  have h4 : q3 = [] := h4
  refine ⟨⟨x0, x1, x2, x3⟩, ?_, ⟨w0, w1, w2, w3⟩⟩
  rw [e0, f0, e1, f1, e2, f2, e3, f3, h4]; rfl
end Go.Proofs.Ytcpageegmpjkiaa.K

namespace Go.Proofs.Ytcpageegmpjkiaa.K
open Go.RowKit Go.Lib
def chB (x : GChange) : Prop := -1099511627776 ≤ x.N ∧ x.N ≤ 1099511627776
theorem tover_ok {l : List GChange} (hl : l.length ≤ maxLen) : ∃ r, m_w26_Over l = some r ∧ (r = 1 ∨ r = 0 ∧ l.length ≤ 40 ∧ ∀ x ∈ l, chB x) := by
  unfold m_w26_Over
  by_cases h : 40 < l.length
  · rw [d_lt (by omega), cond_true]; exact ⟨1, rfl, .inl rfl⟩
  · rw [d_nlt (by omega), cond_false]
    have := loop1_0 (L := fun fu i => m_w26_Over_l1 l fu i) (n := l.length) (P := fun i o => ∃ r, o = some r ∧ (r = 1 ∨ r = 0 ∧ ∀ x ∈ l.drop i, chB x)) (by omega)
      (fun fu => by unfold m_w26_Over_l1; rw [d_nlt (by omega), cond_false]; exact ⟨0, rfl, .inr ⟨rfl, by simp⟩⟩)
      (fun fu i hi ih => by
        unfold m_w26_Over_l1
        rw [d_lt (by omega), cond_true, geti_lt hi, obind_some]
        by_cases h1 : l[i].N < -1099511627776
        · rw [d_lt h1, cond_true]; exact ⟨1, rfl, .inl rfl⟩
        · rw [d_nlt h1, cond_false, obind_some]
          by_cases h2 : 1099511627776 < l[i].N
          · rw [d_lt h2, cond_true]; exact ⟨1, rfl, .inl rfl⟩
          · rw [d_nlt h2, cond_false, inc_ok (by omega)]
            obtain ⟨r, e, q⟩ := ih
            refine ⟨r, e, q.imp id fun ⟨q1, q2⟩ => ⟨q1, fun x hx => ?_⟩⟩
            rw [drop_cons hi] at hx
            rcases List.mem_cons.1 hx with rfl | hx
            · exact ⟨by omega, by omega⟩
            · exact q2 x hx)
    obtain ⟨r, e, q⟩ := this
    exact ⟨r, e, q.imp id fun ⟨q1, q2⟩ => ⟨q1, by omega, by simpa using q2⟩⟩
theorem town_ok {l : List GChange} (hl : l.length ≤ 100000000) : m_w26_Own l = some l := by
  have := map_loop (L := fun fu s i => m_w26_Own_l0 l fu s i) (l := l) (f := id) (e := id) (by omega) (fun fu s => by unfold m_w26_Own_l0; rw [d_nlt (by omega)]; rfl)
    (fun fu s i h hs => by
      conv => lhs; unfold m_w26_Own_l0
      rw [d_lt (by omega), cond_true, geti_lt h, obind_some, app_ok (by simp; omega), obind_some, inc_ok (by omega)]; rfl)
  rw [List.map_id] at this; exact this
theorem chB_abs : ∀ {l : List GChange}, (∀ x ∈ l, chB x) → absum l ≤ l.length * 1099511627776
  | [], _ => by simp [absum]
  | x :: l, h => by
    have := chB_abs (l := l) fun y hy => h y (by simp [hy])
    obtain ⟨h1, h2⟩ := h x (by simp)
    simp only [absum, List.length_cons, Nat.add_mul]; omega
/-- What a law's changes are. -/
theorem ch_half {l : List GChange} (hl : l.length ≤ 40) (h : ∀ x ∈ l, chB x) : l.length ≤ 500000 ∧ absum l ≤ 576460752303423488 := by
  have := chB_abs h
  have : l.length * 1099511627776 ≤ 40 * 1099511627776 := Nat.mul_le_mul_right _ hl
  omega
theorem half_small {l : List GChange} (h : l.length ≤ 500000 ∧ absum l ≤ 576460752303423488) : small l := ⟨by omega, by omega⟩
end Go.Proofs.Ytcpageegmpjkiaa.K

namespace Go.Proofs.Ytcpageegmpjkiaa.K
open Go.RowKit Go.Lib
abbrev NIt (W i : Nat) (x : GNet) : Prop := NI W (40 * i) (43980465111040 * i) (40 + 560 * i) (43980465111040 + 615726511554560 * i) i x
theorem NIt.up {W i L A VL VA B : Nat} {x : GNet} (hi : i ≤ 13) (h : NI W L A VL VA B x) (h1 : L ≤ 40 * i + 40) (h2 : A ≤ 43980465111040 * i + 43980465111040) (h3 : VL ≤ 40 + 560 * i + 40 * i) (h4 : VA ≤ 43980465111040 + 615726511554560 * i + 43980465111040 * i) (h5 : B ≤ i + 1) : NIt W (i + 1) x :=
  h.mono (by omega) (by omega) (by omega) (by omega) (by omega)
theorem rnew_ok {w most : Int} {first : List GChange} (hs : small first) (h : (1 ≤ w ∧ w ≤ 16) ∧ 1 ≤ most ∧ most ≤ 4096) : m_r29_New w most first = some (⟨most, List.replicate w.toNat (nrm first), List.replicate w.toNat [], []⟩, 0) := by
  obtain ⟨n, rfl⟩ : ∃ n : Nat, w = (n : Int) := ⟨w.toNat, by omega⟩
  unfold m_r29_New
  rw [d_nlt (by omega), cond_false, d_nlt (by omega), cond_false, d_nlt (by omega), cond_false, d_nlt (by omega), cond_false]
  have := loopG_0 (L := fun fu (s : List (List GChange) × List (List GChange)) i => m_r29_New_l2 (n : Int) most first fu s.1 s.2 i) (n := n) (P := fun i s o => s.1 = List.replicate i (nrm first) → s.2 = List.replicate i [] → o = some ((⟨most, List.replicate n (nrm first), List.replicate n [], []⟩ : GNet_), (0 : Int))) (by omega)
    (fun fu s e1 e2 => by unfold m_r29_New_l2; rw [d_nlt (by omega), cond_false, e1, e2])
    (fun fu s i hi ih e1 e2 => by
      unfold m_r29_New_l2
      rw [d_lt (by omega), cond_true, rnormal_ok hs, obind_some, app_ok (by rw [e1]; simp; omega), obind_some, app_ok (by rw [e2]; simp; omega), obind_some, inc_ok (by omega)]
      exact ih (_, _) (by rw [e1, List.replicate_succ']) (by rw [e2, List.replicate_succ'])) ([], [])
  exact this rfl rfl
theorem rnew_err {w most : Int} {first : List GChange} (h : ¬ ((1 ≤ w ∧ w ≤ 16) ∧ 1 ≤ most ∧ most ≤ 4096)) : m_r29_New w most first = some (⟨0, [], [], []⟩, 2) := by
  unfold m_r29_New m_r29_New_j1
  by_cases h1 : w < 1
  · rw [d_lt h1, cond_true]
  rw [d_nlt h1, cond_false]
  by_cases h2 : 16 < w
  · rw [d_lt h2, cond_true]
  rw [d_nlt h2, cond_false]
  by_cases h3 : most < 1
  · rw [d_lt h3, cond_true]
  rw [d_nlt h3, cond_false, d_lt (by omega), cond_true]
/-- What stands behind a turn is told alike. -/
theorem does_j17 {W i : Nat} {p2 : List GOp_} {x : GNet} {y : GNet_} {e f : Int} {k : Int → (List (List GChange)) → (List (List GChange)) → (Option (List (GArr2_Int × (List (List GChange))))) → Int → (List (List GChange)) → (List (List GChange)) → (List GBatch) → Int → Option Bool} (hil : i < p2.length) (h : NIt W (i + 1) x) (hr : RL W x y) (hi : i ≤ 13) (hW : W ≤ 16) (he : e = f)
    (hk : k x.Cap x.Views x.Pending x.Links y.Cap y.Views y.Pending y.On (IntKind.i64.wrap ((i : Int) + 1)) = some true) : m_w29_ViewDoes_j17 p2 (i : Int) k x e y f = some true := by
  have hB : W * (W * (i + 1)) ≤ 16 * (16 * 14) := Nat.mul_le_mul hW (Nat.mul_le_mul hW (by omega))
  have hC : W * ((i + 1) * (40 * (i + 1))) ≤ 16 * (14 * 560) := Nat.mul_le_mul hW (Nat.mul_le_mul (by omega) (by omega))
  have hC2 : W * ((i + 1) * (43980465111040 * (i + 1))) ≤ 16 * (14 * 615726511554560) := Nat.mul_le_mul hW (Nat.mul_le_mul (by omega) (by omega))
  have hD : W * (40 * (i + 1)) ≤ 16 * 560 := Nat.mul_le_mul hW (by omega)
  have hD2 : W * (43980465111040 * (i + 1)) ≤ 16 * 615726511554560 := Nat.mul_le_mul hW (by omega)
  have hn : ∀ a b : Int, (rl y.On a b).length ≤ i + 1 := fun a b => by rw [← hr.link]; exact h.n a b
  have ho := on_le hr.rng hn
  unfold m_w29_ViewDoes_j17
  rw [decide_eq_false (by rw [he]; simp), cond_false, back_ok h (by omega) (by omega) (by omega) (by omega) (by omega), obind_some, rSame_ok h hr (by omega) (by omega) (by omega) (by omega) (by omega), obind_some, Bool.not_true, cond_false, geti_lt hil, obind_some, obind_some, waits_ok, obind_some, obind_some, obind_some, rwaits_ok (by omega), obind_some, hr.link, decide_eq_false (by simp), cond_false,
    idle_ok (by rw [h.plen]; omega), obind_some, ridle_ok h hr (by omega), obind_some, decide_eq_false (by simp), cond_false, obind_some, obind_some]
  have hfr : ∃ z, m_view_Net_Front x p2[i].A p2[i].B = some z ∧ m_r29_Front y p2[i].A p2[i].B = some z := by
    by_cases hw : p2[i].A < 0 ∨ (W : Int) ≤ p2[i].A
    · refine ⟨0, front_out (by rw [h.vlen]; exact hw) _, ?_⟩
      unfold m_r29_Front
      rw [rthere_out (by rw [hr.views, h.vlen]; exact hw), obind_some]; rfl
    · obtain ⟨w, hww⟩ : ∃ n : Nat, p2[i].A = (n : Int) := ⟨p2[i].A.toNat, by omega⟩
      have hwW : w < W := by omega
      have hvg := (h.vg w).1
      have sm : small (x.Views.getD w []) := ⟨by omega, by omega⟩
      have hv : w < x.Views.length := by rw [h.vlen]; exact hwW
      rw [hww]
      refine ⟨_, ?_, rfront_ok h hr hwW sm _⟩
      rw [getD_in hv] at sm ⊢
      exact front_in hv sm _
  obtain ⟨z, f1, f2⟩ := hfr
  rw [f1, obind_some, obind_some, obind_some, f2, obind_some, decide_eq_false (by simp), cond_false, obind_some]
  have htr : ∃ t, m_view_Net_Truth x p2[i].A = some t ∧ m_r29_Truth y p2[i].A = some t ∧ t.length ≤ 1000000 := by
    by_cases hw : p2[i].A < 0 ∨ (W : Int) ≤ p2[i].A
    · refine ⟨[], ?_, ?_, Nat.zero_le _⟩
      · unfold m_view_Net_Truth
        rw [there_out (by rw [h.vlen]; exact hw), obind_some]; rfl
      · unfold m_r29_Truth
        rw [rthere_out (by rw [hr.views, h.vlen]; exact hw), obind_some]; rfl
    · obtain ⟨w, hww⟩ : ∃ n : Nat, p2[i].A = (n : Int) := ⟨p2[i].A.toNat, by omega⟩
      have hwW : w < W := by omega
      rw [hww]
      obtain ⟨sm, t1⟩ := truth_in h hwW (by omega) (by omega) ⟨by omega, by omega⟩
      have := nrm_len (whole x w)
      have := sm.1
      exact ⟨_, t1, rtruth_ok h hr hwW (by omega) (by omega) ⟨by omega, by omega⟩, by omega⟩
  obtain ⟨t, t1, t2, t3⟩ := htr
  rw [t1, obind_some, tback_ok (by omega), obind_some, obind_some, t2, obind_some, rsame_ok (by omega) (by omega), obind_some, decide_eq_true rfl, Bool.not_true, cond_false, h.same (by omega) (by omega) (by omega) (by omega), obind_some, Bool.not_true, cond_false]
  exact hk
set_option maxHeartbeats 1000000 in
theorem main_ViewDoes (p0 : GArr2_Int) (p1 : List GChange) (p2 : List GOp_) (h0 : wf_GArr2_Int p0) (h1 : wfL wf_GChange p1) (h2 : wfL wf_GOp_ p2) : m_w29_ViewDoes p0 p1 p2 = some true := by
  unfold m_w29_ViewDoes
  rw [awk29]
  obtain ⟨r, er, q⟩ := tover_ok h1.1
  rw [er, obind_some]
  rcases q with rfl | ⟨rfl, l1, b1⟩
  · rfl
  rw [d_nlt (by decide), cond_false]
  by_cases hl : 14 < p2.length
  · rw [d_lt (by omega), cond_true]; rfl
  rw [d_nlt (by omega), cond_false, town_ok (by omega), obind_some]
  have a1 := chB_abs b1
  have s1 : small p1 := half_small (ch_half l1 b1)
  have key : ∀ (W : Nat), W ≤ 16 → ∀ (n fu i : Nat) (x : GNet) (y : GNet_), i + n = p2.length → n < fu → NIt W i x → RL W x y → m_w29_ViewDoes_l5 p2 fu x.Cap x.Views x.Pending x.Links y.Cap y.Views y.Pending y.On (i : Int) = some true := by
    intro W hW16 n
    induction n with
    | zero =>
      intro fu i x y hi hf _ _
      obtain ⟨fu, rfl⟩ : ∃ k, fu = k + 1 := ⟨fu - 1, by omega⟩
      unfold m_w29_ViewDoes_l5
      rw [d_nlt (by omega), cond_false, awk29]; rfl
    | succ n ih =>
      intro fu i x y hi hf hni hrl
      obtain ⟨fu, rfl⟩ : ∃ k, fu = k + 1 := ⟨fu - 1, by omega⟩
      have hil : i < p2.length := by omega
      have hi13 : i ≤ 13 := by omega
      have next : ∀ (x' : GNet) (y' : GNet_), NIt W (i + 1) x' → RL W x' y' → (fun y7_d_0_5 y7_d_1_5 y7_d_2_5 y7_d_3_5 y9_d_0_5 y9_d_1_5 y9_d_2_5 y9_d_3_5 y11_5 => m_w29_ViewDoes_l5 p2 fu y7_d_0_5 y7_d_1_5 y7_d_2_5 y7_d_3_5 y9_d_0_5 y9_d_1_5 y9_d_2_5 y9_d_3_5 y11_5) x'.Cap x'.Views x'.Pending x'.Links y'.Cap y'.Views y'.Pending y'.On (IntKind.i64.wrap ((i : Int) + 1)) = some true := fun x' y' h' hr' => by
        show m_w29_ViewDoes_l5 p2 fu x'.Cap x'.Views x'.Pending x'.Links y'.Cap y'.Views y'.Pending y'.On (IntKind.i64.wrap ((i : Int) + 1)) = some true
        rw [inc_ok (by omega)]
        exact ih fu (i + 1) x' y' (by omega) (by omega) h' hr'
      have stay : NIt W (i + 1) x := NIt.up hi13 hni (by omega) (by omega) (by omega) (by omega) (by omega)
      have done : ∀ (x' : GNet) (y' : GNet_) (e f : Int), NIt W (i + 1) x' → RL W x' y' → e = f → m_w29_ViewDoes_j17 p2 (i : Int) (fun y7_d_0_5 y7_d_1_5 y7_d_2_5 y7_d_3_5 y9_d_0_5 y9_d_1_5 y9_d_2_5 y9_d_3_5 y11_5 => m_w29_ViewDoes_l5 p2 fu y7_d_0_5 y7_d_1_5 y7_d_2_5 y7_d_3_5 y9_d_0_5 y9_d_1_5 y9_d_2_5 y9_d_3_5 y11_5) x' e y' f = some true := fun x' y' e f h' hr' he =>
        does_j17 hil h' hr' hi13 hW16 he (next x' y' h' hr')
      have hx : (⟨x.Cap, x.Views, x.Pending, x.Links⟩ : GNet) = x := rfl
      have hy : (⟨y.Cap, y.Views, y.Pending, y.On⟩ : GNet_) = y := rfl
      have hyv : y.Views.length = W := by rw [hrl.views]; exact hni.vlen
      have hyp : y.Pending.length = W := by rw [hrl.pend]; exact hni.plen
      have hn : ∀ a b : Int, (rl y.On a b).length ≤ i := fun a b => by rw [← hrl.link]; exact hni.n a b
      have ho := on_le hrl.rng hn
      have hB : W * (W * i) ≤ 16 * (16 * 13) := Nat.mul_le_mul hW16 (Nat.mul_le_mul hW16 hi13)
      unfold m_w29_ViewDoes_l5
      rw [d_lt (by omega), cond_true, geti_lt hil, obind_some]
      obtain ⟨r, er, q⟩ := tover_ok (h2.2 _ (List.getElem_mem hil)).L.1
      rw [er, obind_some, awk29]
      rcases q with rfl | ⟨rfl, lL, bL⟩
      · rfl
      have aL := chB_abs bL
      rw [d_nlt (by decide), cond_false, obind_some]
      simp only [hx, hy]
      by_cases k0 : ((p2[i].Kind.toNat : Nat) : Int) = 0
      · rw [decide_eq_true k0, cond_true, obind_some, obind_some, town_ok (by omega), obind_some]
        rcases note_step hni (by omega) (w := p2[i].A) (l := p2[i].L) (dl := 40) (da := 43980465111040) ⟨by omega, by omega⟩ (by omega) (by omega) with ⟨w, hw, hwW, hr⟩ | ⟨hw, hr⟩
        · have hN := hni.noted (w := w) (l := p2[i].L) (dl := 40) (da := 43980465111040) ⟨by omega, by omega⟩
          have hpg := hni.pg w
          have hyw : w < y.Pending.length := by omega
          have eg := getD_in (d := []) hyw
          have hr2 : m_r29_Note y p2[i].A p2[i].L = some (⟨y.Cap, y.Views, y.Pending.set w (nrm (y.Pending.getD w [] ++ p2[i].L)), y.On⟩, 0) := by
            rw [hw, eg]
            refine rnote_in (by omega) hyw (by omega) ?_
            rw [← eg, hrl.pend]
            exact ⟨by rw [List.length_append]; omega, by rw [absum_app]; omega⟩
          rw [hr, obind_some, obind_some, obind_some, hr2, obind_some]
          exact done _ _ _ _ (NIt.up hi13 hN (by omega) (by omega) (by omega) (by omega) (by omega)) (hrl.noted w _) rfl
        · rw [hr, obind_some, obind_some, obind_some, rnote_out (by rw [hyv]; exact hw), obind_some]
          exact done _ _ _ _ stay hrl rfl
      · rw [decide_eq_false k0, cond_false, obind_some]
        by_cases k1 : ((p2[i].Kind.toNat : Nat) : Int) = 1
        · rw [decide_eq_true k1, cond_true, obind_some]
          rcases flush_step hni (by omega) (by omega) (w := p2[i].A) with ⟨w, hw, hwW, hne, hall, hr⟩ | ⟨e, he, hr, hc⟩
          · have hyw : w < y.Pending.length := by omega
            have eg := getD_in (d := []) hyw
            have hr2 : m_r29_Flush y p2[i].A = some (⟨y.Cap, y.Views, y.Pending.set w [], y.On ++ bts w (y.Pending.getD w []) 0 W⟩, 0) := by
              rw [hw, eg, ← hyv]
              refine (rflush_in (by omega) hyw (by omega) (by omega) (by omega) ?_).2 fun k hk => ?_
              · rw [← eg, hrl.pend]; exact hne
              · rw [hrl.cap, ← hrl.link, ← hw]; exact hall k (by omega)
            rw [hr, obind_some, obind_some, hr2, obind_some]
            exact done _ _ _ _ (NIt.up hi13 (hni.flushed hwW) (by omega) (by omega) (by omega) (by omega) (by omega)) (hrl.flushed hwW hni.vlen) rfl
          · have hr2 : m_r29_Flush y p2[i].A = some (y, e) := by
              rcases hc with ⟨hw, rfl⟩ | ⟨w, hw, hwW, hc⟩
              · exact rflush_out (by rw [hyv]; exact hw)
              · have hyw : w < y.Pending.length := by omega
                have eg := getD_in (d := []) hyw
                rw [hw]
                rcases hc with ⟨hm, rfl⟩ | ⟨hne, ⟨k, hk, hkc⟩, rfl⟩
                · exact rflush_mt (by omega) hyw (by rw [← eg, hrl.pend]; exact hm)
                · refine (rflush_in (by omega) hyw (by omega) (by omega) (by omega) ?_).1 ⟨k, by omega, ?_⟩
                  · rw [← eg, hrl.pend]; exact hne
                  · rw [hrl.cap, ← hrl.link, ← hw]; exact hkc
            rw [hr, obind_some, obind_some, hr2, obind_some]
            exact done _ _ _ _ stay hrl rfl
        · rw [decide_eq_false k1, cond_false, obind_some, obind_some]
          have rd : ∀ (a m : Nat), p2[i].A = a → p2[i].B = m → a < W → m < W → (rl y.On a m = [] → m_r29_Deliver y p2[i].A p2[i].B = some (y, 16)) ∧ (rl y.On a m ≠ [] → ∃ (K : List GBatch) (c : GBatch) (R : List GBatch), y.On = K ++ c :: R ∧ rl K a m = [] ∧ (c.From = a ∧ c.To = m) ∧ (small (y.Views.getD m [] ++ c.L) → m_r29_Deliver y p2[i].A p2[i].B = some (⟨y.Cap, y.Views.set m (nrm (y.Views.getD m [] ++ c.L)), y.Pending, K ++ R⟩, 0))) := fun a m ha hm haW hmW => by
            have hym : m < y.Views.length := by omega
            rw [ha, hm, getD_in hym]
            exact rdeliver_in (by omega) hym (by omega) (by omega)
          rcases deliver_step hni (by omega) (by omega) (i := p2[i].A) (k := p2[i].B) (by omega) (by omega) with ⟨a, m, b, r, ha, hm, haW, hmW, hb, hr⟩ | ⟨e, he, hr, hc⟩
          · obtain ⟨K, c, R, e1, e2, e3, e4⟩ := (rd a m ha hm haW hmW).2 (by rw [← hrl.link, hb]; simp)
            obtain ⟨hRL, e5⟩ := hrl.delivered hni.lok e1 e2 e3 haW hmW
            have ebc : b = c.L := by rw [hb] at e5; exact (List.cons.inj e5).1
            have hvg := (hni.vg m).1
            have hbb := hni.b a m b (by rw [hb]; simp)
            have hr2 := e4 (by rw [hrl.views, ← ebc]; exact ⟨by rw [List.length_append]; omega, by rw [absum_app]; omega⟩)
            rw [hr, obind_some, obind_some, obind_some, hr2, obind_some, ebc]
            rw [ebc] at hb
            exact done _ _ _ _ (NIt.up hi13 (hni.delivered haW hmW hb) (by omega) (by omega) (by omega) (by omega) (by omega)) hRL rfl
          · have hr2 : m_r29_Deliver y p2[i].A p2[i].B = some (y, e) := by
              rcases hc with ⟨hw, rfl⟩ | ⟨a, m, ha, hm, haW, hmW, hb, rfl⟩
              · exact rdeliver_out (by rw [hyv]; exact hw)
              · exact (rd a m ha hm haW hmW).1 (by rw [← hrl.link]; exact hb)
            rw [hr, obind_some, obind_some, obind_some, hr2, obind_some]
            exact done _ _ _ _ stay hrl rfl
  by_cases hn : ¬ ((1 ≤ p0.a0 ∧ p0.a0 ≤ 16) ∧ 1 ≤ p0.a1 ∧ p0.a1 ≤ 4096)
  · rw [new_err hn, obind_some, rnew_err hn, obind_some, decide_eq_false (by simp), cond_false]
    have hni : NIt 0 0 ⟨0, [], [], none⟩ := ⟨rfl, rfl, ⟨by simp [ml], by simp [ml], by simp [ml]⟩, by simp, fun _ _ => Nat.le_refl _, fun _ _ l hl => (by cases hl), by simp⟩
    have hrl : RL 0 ⟨0, [], [], none⟩ ⟨0, [], [], []⟩ := ⟨rfl, rfl, rfl, fun _ _ => rfl, by simp⟩
    have hk := key 0 (by omega) p2.length 1152921504606846976 0 _ _ (by omega) (by omega) hni hrl
    clear key
    generalize (1152921504606846976 : Nat) = fu at hk ⊢
    exact hk
  replace hn := Classical.not_not.1 hn
  obtain ⟨W, hW⟩ : ∃ W : Nat, p0.a0 = (W : Int) := ⟨p0.a0.toNat, by omega⟩
  have e0 : p0.a0.toNat = W := by omega
  rw [new_ok s1 hn, obind_some, rnew_ok s1 hn, obind_some, decide_eq_false (by simp), cond_false, e0]
  simp only []
  have hni : NIt W 0 ⟨p0.a1, List.replicate W (nrm p1), List.replicate W [], some []⟩ := NI.new.mono (by omega) (by omega) (by omega) (by omega) (by omega)
  have hrl : RL W ⟨p0.a1, List.replicate W (nrm p1), List.replicate W [], some []⟩ ⟨p0.a1, List.replicate W (nrm p1), List.replicate W [], []⟩ := ⟨rfl, rfl, rfl, fun _ _ => rfl, by simp⟩
  have hk := key W (by omega) p2.length 1152921504606846976 0 _ _ (by omega) (by omega) hni hrl
  clear key
  generalize (1152921504606846976 : Nat) = fu at hk ⊢
  exact hk
end Go.Proofs.Ytcpageegmpjkiaa.K
