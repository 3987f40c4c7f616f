/- Books of one leave, and a crew's turn: plain. -/
import Derived.Test.YtcpageegmpjkiaaZC2
import Derived.Test.YtcpageegmpjkiaaZLM
set_option linter.unusedVariables false
set_option linter.unusedSimpArgs false
namespace Go.Proofs.Ytcpageegmpjkiaa.K
open Go.RowKit Go.Lib
theorem mayp00 : m_token_Point_may ⟨0, 0⟩ = some true := by decide +kernel
theorem clonel_ok {l : List GLeave_} (h : l.length ≤ 1000000) : m_slices_Clone_Leave l = some l := by
  unfold m_slices_Clone_Leave
  rw [app_ok (by simp; omega), obind_some, List.nil_append]
theorem hold_0 : m_token_Book_Hold ⟨[]⟩ ⟨0, 0⟩ = some (bk 0 true, 0, [⟨0, 0, 1⟩], 0) := by
  unfold m_token_Book_Hold
  rw [mayp00, obind_some, Bool.not_true, cond_false, decide_eq_false (by simp), cond_false, clonel_ok (by simp), obind_some, app_ok (by simp), obind_some]
  rfl
theorem may_bk (t a : Int) (h : Bool) : m_token_Book_May (bk t h) 0 a = some (h && decide (t ≤ a)) := by
  unfold m_token_Book_May m_slices_ContainsFunc_Leave__token_Book_May_1 m_slices_IndexFunc_Leave__token_Book_May_1
  show Option.bind (Option.bind (m_slices_IndexFunc_Leave__token_Book_May_1_l1 [⟨⟨0, t⟩, h⟩] 0 a (1152921504606846974 + 1 + 1) 0) _) _ = _
  unfold m_slices_IndexFunc_Leave__token_Book_May_1_l1 m_token_Book_May_1
  rw [decide_eq_true (by simp), cond_true, geti_0, obind_some]
  unfold m_slices_IndexFunc_Leave__token_Book_May_1_l1
  have e1 : IntKind.i64.wrap (0 + 1) = 1 := w64 (by omega) (by omega)
  rw [e1]
  cases h
  · simp
  · by_cases ht : t ≤ a
    · simp [ht]
    · simp [ht]
theorem get_bk (t : Int) (h : Bool) : m_token_Book_Get (bk t h) 0 = some (⟨⟨0, t⟩, h⟩, true) := rfl
theorem held_bk (t : Int) (h : Bool) : m_token_Book_held (bk t h) 0 = some (if h then (⟨⟨0, t⟩, h⟩, 0) else (⟨⟨0, 0⟩, false⟩, 20)) := by cases h <;> rfl
theorem with_bk (t : Int) (h : Bool) (y : GLeave_) : m_token_Book_with (bk t h) 0 y = some ⟨[y]⟩ := by
  unfold m_token_Book_with
  rw [clonel_ok (by simp [bk]), obind_some]; rfl
theorem lower_bk (t A : Int) (h : Bool) : (∃ e, m_token_Book_Lower (bk t h) 0 A = some (bk t h, [], e)) ∨ (h = true ∧ t ≤ A ∧ A ≤ 1099511627776 ∧ m_token_Book_Lower (bk t h) 0 A = some (bk A true, nrm [⟨0, t, -1⟩, ⟨0, A, 1⟩], 0)) := by
  unfold m_token_Book_Lower
  rw [held_bk, obind_some]
  cases h
  · left; exact ⟨20, rfl⟩
  · rw [if_pos rfl]
    simp only []
    rw [decide_eq_false (by simp), cond_false]
    by_cases h1 : 1099511627776 < A
    · left; rw [d_lt h1, cond_true]; exact ⟨8, rfl⟩
    · rw [d_nlt h1, cond_false]
      by_cases h2 : A < t
      · left; rw [d_lt h2, cond_true]; exact ⟨8, rfl⟩
      · right
        refine ⟨trivial, by omega, by omega, ?_⟩
        unfold m_token_Point_change
        rw [d_nlt h2, cond_false, obind_some, with_bk, obind_some, obind_some]
        simp only []
        rw [normal_ok ⟨by simp, by simp [absum]⟩, obind_some]; rfl
theorem drop_bk (t : Int) (h : Bool) : (h = false ∧ m_token_Book_Drop (bk t h) 0 = some (bk t h, [], 20)) ∨ (h = true ∧ m_token_Book_Drop (bk t h) 0 = some (bk t false, [⟨0, t, -1⟩], 0)) := by
  cases h
  · left; exact ⟨rfl, rfl⟩
  · right
    refine ⟨rfl, ?_⟩
    unfold m_token_Book_Drop
    rw [held_bk, obind_some]
    rw [if_pos rfl]
    simp only []
    rw [decide_eq_false (by simp), cond_false, with_bk, obind_some]; rfl
section
variable {W L A VL VA B : Nat} {x : GNet} {books : List GBook} {things : List Int} {g : Gh}
theorem tmod_in {a : Int} {n : Nat} (ha : 0 ≤ a) (hn : 0 < n) : ∃ w : Nat, Int.tmod a (n : Int) = (w : Int) ∧ w < n := by
  have h1 := Int.tmod_nonneg (n : Int) ha
  have h2 := Int.tmod_lt_of_pos a (b := (n : Int)) (by omega)
  exact ⟨(Int.tmod a (n : Int)).toNat, by omega, by omega⟩
theorem j17_ok {c : GTcrew} {p : GTurn_} {w : Nat} (hw : Int.tmod p.W ((List.length c.books : Nat) : Int) = (w : Int)) {y : GNet} {bs : List GBook} {ts : List Int} {g : Gh}
    (h : GI W y bs ts g) (hn : NI W L A VL VA B y) (hW : W ≤ 4) (hB : B ≤ 900000) (h1 : VL + L ≤ 1000000) (h2 : VA + A ≤ 1000000) :
    ∃ y' g', m_w29_crew_turn_2_j17 c p ts bs y = some (⟨y', bs, ts⟩, bs) ∧ GI W y' bs ts g' ∧ NI W L A (VL + L) (VA + A) B y' ∧ g.le W g' := by
  have stay : ∃ y' g', some ((⟨y, bs, ts⟩ : GTcrew), bs) = some ((⟨y', bs, ts⟩ : GTcrew), bs) ∧ GI W y' bs ts g' ∧ NI W L A (VL + L) (VA + A) B y' ∧ g.le W g' := ⟨y, g, rfl, h, hn.mono (Nat.le_refl _) (Nat.le_refl _) (by omega) (by omega) (Nat.le_refl _), g.le_refl⟩
  unfold m_w29_crew_turn_2_j17
  rw [hw]
  by_cases k5 : ((p.Kind.toNat : Nat) : Int) = 5
  · rw [decide_eq_true k5, cond_true]
    rcases deliver_step hn (by omega) hB (i := p.A) (k := (w : Int)) h1 (by omega) with ⟨n, m, b, r, e1, e2, hn', hm', hb, hr⟩ | ⟨e, he, hr, _⟩
    · rw [hr, obind_some]
      have hd := h.delivered hn hn' hm' hb
      exact ⟨_, _, rfl, hd.1, hn.delivered hn' hm' hb, hd.2⟩
    · rw [hr, obind_some]; exact stay
  · rw [decide_eq_false k5, cond_false]; exact stay
theorem j14_ok {c : GTcrew} {p : GTurn_} {w : Nat} (hw : Int.tmod p.W ((List.length c.books : Nat) : Int) = (w : Int)) (hwW : w < W) {bs : List GBook} {ts : List Int}
    (h : GI W c.net books things g) (hn : NI W L A VL VA B c.net) (hW : W ≤ 4) (hB : B ≤ 800000) (h1 : VL + L + 2 ≤ 1000000) (h2 : VA + A + 2 ≤ 1000000) {ms : List Mv} {l : List GChange}
    (hl2 : l.length ≤ 2 ∧ absum l ≤ 2)
    (hl : ∀ a b, atp l a b = atp (csF (stF s0 (g.all w)) ms) a b) (hok : okF (stF s0 (g.all w)) ms)
    (hbl : bs.length = W) (hbo : ∀ i, i ≠ w → bs[i]? = books[i]?)
    (hbw : ∃ t h, bs[w]? = some (bk t h) ∧ (0 ≤ t ∧ t ≤ 1099511627776) ∧ stF (stF s0 (g.all w)) ms = if h then some t else none)
    (hth : ∀ a, (ts.count a : Int) = things.count a + ((ms.count (.mk a) : Int) - ms.count (.tk a)))
    (htm : ∀ a ∈ ts, 0 ≤ a ∧ a ≤ 1099511627776) :
    ∃ y' g', m_w29_crew_turn_2_j14 c p ts bs l = some (⟨y', bs, ts⟩, bs) ∧ GI W y' bs ts g' ∧ NI W (L + 2) (A + 2) (VL + (L + 2)) (VA + (A + 2)) (B + 1) y' ∧ g.le W g' := by
  unfold m_w29_crew_turn_2_j14
  rw [hw]
  have hs : m_view_Net_Note c.net (w : Int) l = some (noted c.net w l, 0) := by
    rcases note_step hn (by omega) (w := (w : Int)) (l := l) (dl := 2) (da := 2) hl2 (by omega) (by omega) with ⟨n, e, _, hr⟩ | ⟨hw', _⟩
    · obtain rfl : w = n := by omega
      exact hr
    · omega
  rw [hs, obind_some]
  have g1 := h.noted hn.plen hwW hl hok hbl hbo hbw hth htm
  have n1 := hn.noted (w := w) (l := l) (dl := 2) (da := 2) hl2
  have le1 : g.le W ⟨g.seg, upd g.cur w (g.cur w ++ ms), g.d⟩ := fun i j _ _ => ⟨[], by rw [List.append_nil]; rfl⟩
  generalize (noted c.net w l : GNet) = y at g1 n1 ⊢
  generalize (⟨g.seg, upd g.cur w (g.cur w ++ ms), g.d⟩ : Gh) = g0 at g1 le1
  have go : ∀ (z : GNet) (gz : Gh), GI W z bs ts gz → NI W (L + 2) (A + 2) VL VA (B + 1) z → g.le W gz → ∃ y' g', m_w29_crew_turn_2_j17 c p ts bs z = some (⟨y', bs, ts⟩, bs) ∧ GI W y' bs ts g' ∧ NI W (L + 2) (A + 2) (VL + (L + 2)) (VA + (A + 2)) (B + 1) y' ∧ g.le W g' := fun z gz hz nz lz => by
    obtain ⟨y', g', e, q1, q2, q3⟩ := j17_ok hw hz nz hW (by omega) (by omega) (by omega)
    exact ⟨y', g', e, q1, q2, Gh.le_trans lz q3⟩
  have n2 : NI W (L + 2) (A + 2) VL VA (B + 1) y := n1.mono (Nat.le_refl _) (Nat.le_refl _) (Nat.le_refl _) (Nat.le_refl _) (by omega)
  by_cases k4 : ((p.Kind.toNat : Nat) : Int) = 4
  · rw [decide_eq_true k4, cond_true]
    rcases flush_step n1 (by omega) (by omega) (w := (w : Int)) with ⟨n, e, hn', _, _, hr⟩ | ⟨e, _, hr, _⟩
    · rw [hr, obind_some]
      have f := g1.flushed n1 hn'
      exact go _ _ f.1 (n1.flushed hn') (Gh.le_trans le1 f.2)
    · rw [hr, obind_some]; exact go _ _ g1 n2 le1
  · rw [decide_eq_false k4, cond_false]; exact go _ _ g1 n2 le1
theorem erase_count {l : List Int} {k : Nat} (hk : k < l.length) (a : Int) : ((l.take k ++ l.drop (k + 1)).count a : Int) = l.count a + (((([] : List Mv).count (.mk a) : Nat) : Int) - ([Mv.tk l[k]].count (.tk a) : Nat)) := by
  have e : l = l.take k ++ l[k] :: l.drop (k + 1) := by rw [← List.drop_eq_getElem_cons hk, List.take_append_drop]
  have k2 := congrArg (List.count a) e
  rw [List.count_append, List.count_cons] at k2
  rw [List.count_append]
  rw [k2]
  by_cases h : l[k] = a
  · simp [h]; omega
  · simp [h]
theorem turn_ok {p : GTurn_} (h : GI W x books things g) (hn : NI W L A VL VA B x) (hW : W ≤ 4) (hW0 : 0 < W) (hB : B ≤ 800000) (hth : things.length ≤ 1000000) (h1 : VL + L + 2 ≤ 1000000) (h2 : VA + A + 2 ≤ 1000000) (hp : 0 ≤ p.W) :
    ∃ x' books' things' g', m_w29_crew_turn_2 ⟨x, books, things⟩ p = some (⟨x', books', things'⟩, books') ∧ GI W x' books' things' g' ∧ NI W (L + 2) (A + 2) (VL + (L + 2)) (VA + (A + 2)) (B + 1) x' ∧ g.le W g' ∧ things'.length ≤ things.length + 1 := by
  have hbl := h.blen
  obtain ⟨w, hw, hwW⟩ := tmod_in (a := p.W) (n := books.length) hp (by omega)
  rw [hbl] at hwW
  obtain ⟨t, hd, hbk, ht, hst⟩ := h.book w hwW
  have hgb : geti books (w : Int) = some (bk t hd) := by rw [geti_nat, hbk]
  have hok := h.ok w hwW
  -- no move
  have none_ : ∃ x' books' things' g', m_w29_crew_turn_2_j14 ⟨x, books, things⟩ p things books [] = some (⟨x', books', things'⟩, books') ∧ GI W x' books' things' g' ∧ NI W (L + 2) (A + 2) (VL + (L + 2)) (VA + (A + 2)) (B + 1) x' ∧ g.le W g' ∧ things'.length ≤ things.length + 1 := by
    obtain ⟨y', g', e, q1, q2, q3⟩ := j14_ok (c := ⟨x, books, things⟩) (p := p) hw hwW h hn hW hB h1 h2 (ms := []) (l := []) ⟨by simp, by simp [absum]⟩ (fun a b => rfl) trivial hbl (fun i _ => rfl) ⟨t, hd, hbk, ht, hst⟩ (fun a => by simp) h.tim
    exact ⟨y', _, _, g', e, q1, q2, q3, by omega⟩
  unfold m_w29_crew_turn_2
  rw [chk_ok (by simp only []; omega)]
  by_cases k1 : ((p.Kind.toNat : Nat) : Int) = 1
  · -- take
    have k0 : ¬ ((p.Kind.toNat : Nat) : Int) = 0 := by omega
    have k2 : ¬ ((p.Kind.toNat : Nat) : Int) = 2 := by omega
    have k3 : ¬ ((p.Kind.toNat : Nat) : Int) = 3 := by omega
    rw [decide_eq_false k0, cond_false]
    unfold m_w29_crew_turn_2_j2 m_w29_crew_turn_2_j4
    rw [decide_eq_true k1, cond_true]
    simp only []
    by_cases hl0 : 0 < things.length
    · rw [d_lt (by omega), cond_true, chk_ok (by omega)]
      have hj7 : ∀ k : Nat, k < things.length → ∃ x' books' things' g', m_w29_crew_turn_2_j7 ⟨x, books, things⟩ p things (k : Int) = some (⟨x', books', things'⟩, books') ∧ GI W x' books' things' g' ∧ NI W (L + 2) (A + 2) (VL + (L + 2)) (VA + (A + 2)) (B + 1) x' ∧ g.le W g' ∧ things'.length ≤ things.length + 1 := fun k hk => by
        unfold m_w29_crew_turn_2_j7
        have c2 := cut_ok (l := things) (a := k + 1) (b := things.length) (by omega) (Nat.le_refl _)
        have e2 : (things.drop (k + 1)).take (things.length - (k + 1)) = things.drop (k + 1) := List.take_of_length_le (by rw [List.length_drop]; omega)
        rw [geti_lt hk, obind_some, cut_0 (by omega), obind_some, app_ok (by simp; omega), obind_some, List.nil_append, inc_ok (by omega), c2, obind_some, e2, app_ok (by simp; omega), obind_some]
        unfold m_w29_crew_turn_2_j10
        rw [decide_eq_false k2, cond_false]
        unfold m_w29_crew_turn_2_j12
        rw [decide_eq_false k3, cond_false]
        simp only []
        obtain ⟨y', g', e, q1, q2, q3⟩ := j14_ok (c := ⟨x, books, things⟩) (p := p) hw hwW h hn hW hB h1 h2 (ts := things.take k ++ things.drop (k + 1)) (ms := [.tk things[k]]) (l := [⟨1, things[k], -1⟩]) ⟨by simp, by simp [absum]⟩ (fun a b => rfl) ⟨trivial, trivial⟩ hbl (fun i _ => rfl) ⟨t, hd, hbk, ht, hst⟩ (fun a => by
          have := erase_count hk a
          rw [this]; simp) (fun a ha => by
          rcases List.mem_append.1 ha with ha | ha
          · exact h.tim a (List.mem_of_mem_take ha)
          · exact h.tim a (List.mem_of_mem_drop ha))
        exact ⟨y', _, _, g', e, q1, q2, q3, by simp; omega⟩
      by_cases hneg : Int.tmod p.A (things.length : Int) < 0
      · rw [d_lt hneg, cond_true]; exact hj7 0 hl0
      · rw [d_nlt hneg, cond_false]
        have h2 := Int.tmod_lt_of_pos p.A (b := (things.length : Int)) (by omega)
        have e : Int.tmod p.A (things.length : Int) = ((Int.tmod p.A (things.length : Int)).toNat : Int) := by omega
        rw [e]; exact hj7 _ (by omega)
    · rw [d_nlt (by omega), cond_false]
      unfold m_w29_crew_turn_2_j10
      rw [decide_eq_false k2, cond_false]
      unfold m_w29_crew_turn_2_j12
      rw [decide_eq_false k3, cond_false]
      exact none_
  · have j4 : ∀ ts l, m_w29_crew_turn_2_j4 ⟨x, books, things⟩ p ts l = m_w29_crew_turn_2_j10 ⟨x, books, things⟩ p ts l := fun ts l => by
      unfold m_w29_crew_turn_2_j4
      rw [decide_eq_false k1, cond_false]
    by_cases k0 : ((p.Kind.toNat : Nat) : Int) = 0
    · -- make
      have k2 : ¬ ((p.Kind.toNat : Nat) : Int) = 2 := by omega
      have k3 : ¬ ((p.Kind.toNat : Nat) : Int) = 3 := by omega
      have j10 : ∀ ts l, m_w29_crew_turn_2_j10 ⟨x, books, things⟩ p ts l = m_w29_crew_turn_2_j14 ⟨x, books, things⟩ p ts books l := fun ts l => by
        unfold m_w29_crew_turn_2_j10
        rw [decide_eq_false k2, cond_false]
        unfold m_w29_crew_turn_2_j12
        rw [decide_eq_false k3, cond_false]
      unfold m_w29_crew_turn_2_j2
      rw [decide_eq_true k0, cond_true]
      simp only [j4, j10]
      by_cases a0 : 0 ≤ p.A
      · rw [decide_eq_true a0, cond_true]
        by_cases a1 : p.A ≤ 1099511627776
        · rw [decide_eq_true a1, cond_true, hw, hgb, obind_some, may_bk, obind_some]
          cases hm : (hd && decide (t ≤ p.A)) with
          | false => rw [cond_false]; exact none_
          | true =>
            rw [cond_true, app_ok (by simp; omega), obind_some]
            simp only [Bool.and_eq_true, decide_eq_true_eq] at hm
            obtain ⟨rfl, hta⟩ := hm
            rw [if_pos rfl] at hst
            obtain ⟨y', g', e, q1, q2, q3⟩ := j14_ok (c := ⟨x, books, things⟩) (p := p) hw hwW h hn hW hB h1 h2 (ts := things ++ [p.A]) (ms := [.mk p.A]) (l := [⟨1, p.A, 1⟩]) ⟨by simp, by simp [absum]⟩ (fun a b => by rw [hst]; rfl) ⟨⟨t, hst, hta⟩, trivial⟩ hbl (fun i _ => rfl) ⟨t, true, hbk, ht, hst⟩ (fun a => by
              rw [List.count_append]
              by_cases hh : p.A = a
              · simp [hh]
              · simp [hh]) (fun a ha => by
              rcases List.mem_append.1 ha with ha | ha
              · exact h.tim a ha
              · simp at ha; subst ha; exact ⟨a0, a1⟩)
            exact ⟨y', _, _, g', e, q1, q2, q3, by simp⟩
        · rw [decide_eq_false a1, cond_false]; exact none_
      · rw [decide_eq_false a0, cond_false]; exact none_
    · rw [decide_eq_false k0, cond_false]
      unfold m_w29_crew_turn_2_j2
      rw [j4]
      unfold m_w29_crew_turn_2_j10
      have setbk : ∀ (t' : Int) (h' : Bool) (ms : List Mv) (l : List GChange), (l.length ≤ 2 ∧ absum l ≤ 2) → (∀ a b, atp l a b = atp (csF (stF s0 (g.all w)) ms) a b) → okF (stF s0 (g.all w)) ms → (0 ≤ t' ∧ t' ≤ 1099511627776) → stF (stF s0 (g.all w)) ms = (if h' then some t' else none) → (∀ a, ms.count (.mk a) = 0 ∧ ms.count (.tk a) = 0) →
          ∃ x' books' things' g', m_w29_crew_turn_2_j14 ⟨x, books, things⟩ p things (books.set w (bk t' h')) l = some (⟨x', books', things'⟩, books') ∧ GI W x' books' things' g' ∧ NI W (L + 2) (A + 2) (VL + (L + 2)) (VA + (A + 2)) (B + 1) x' ∧ g.le W g' ∧ things'.length ≤ things.length + 1 := fun t' h' ms l hl2 hl hk ht' hs' hc => by
        obtain ⟨y', g', e, q1, q2, q3⟩ := j14_ok (c := ⟨x, books, things⟩) (p := p) hw hwW h hn hW hB h1 h2 (bs := books.set w (bk t' h')) (ts := things) (ms := ms) (l := l) hl2 hl hk (by rw [List.length_set]; exact hbl) (fun i hi => by rw [List.getElem?_set_ne (by omega)]) ⟨t', h', by rw [List.getElem?_set_self (by omega)], ht', hs'⟩ (fun a => by rw [(hc a).1, (hc a).2]; simp) h.tim
        exact ⟨y', _, _, g', e, q1, q2, q3, by omega⟩
      by_cases k2 : ((p.Kind.toNat : Nat) : Int) = 2
      · have k3 : ¬ ((p.Kind.toNat : Nat) : Int) = 3 := by omega
        have j12 : ∀ ts bs l, m_w29_crew_turn_2_j12 ⟨x, books, things⟩ p ts bs l = m_w29_crew_turn_2_j14 ⟨x, books, things⟩ p ts bs l := fun ts bs l => by
          unfold m_w29_crew_turn_2_j12
          rw [decide_eq_false k3, cond_false]
        rw [decide_eq_true k2, cond_true]
        simp only [j12, hw, Int.toNat_natCast]
        rw [hgb, obind_some]
        rcases lower_bk t p.A hd with ⟨e, hr⟩ | ⟨rfl, hta, hmx, hr⟩
        · rw [hr, obind_some, obind_some]
          exact setbk t hd [] [] ⟨by simp, by simp [absum]⟩ (fun a b => rfl) trivial ht hst (fun a => by simp)
        · rw [hr, obind_some, obind_some]
          rw [if_pos rfl] at hst
          have l1 := nrm_len [(⟨0, t, -1⟩ : GChange), ⟨0, p.A, 1⟩]
          have l2 := nrm_abs [(⟨0, t, -1⟩ : GChange), ⟨0, p.A, 1⟩]
          exact setbk p.A true [.lw p.A] _ ⟨l1, l2⟩ (fun a b => by rw [nrm_at, hst]; rfl) ⟨⟨t, hst, hta⟩, trivial⟩ ⟨by omega, hmx⟩ (by rw [hst]; rfl) (fun a => by simp)
      · rw [decide_eq_false k2, cond_false]
        unfold m_w29_crew_turn_2_j12
        by_cases k3 : ((p.Kind.toNat : Nat) : Int) = 3
        · rw [decide_eq_true k3, cond_true]
          simp only [hw, Int.toNat_natCast]
          rw [hgb, obind_some]
          rcases drop_bk t hd with ⟨rfl, hr⟩ | ⟨rfl, hr⟩
          · rw [hr, obind_some, obind_some]
            exact setbk t false [] [] ⟨by simp, by simp [absum]⟩ (fun a b => rfl) trivial ht hst (fun a => by simp)
          · rw [hr, obind_some, obind_some]
            rw [if_pos rfl] at hst
            exact setbk t false [.dr] _ ⟨by simp, by simp [absum]⟩ (fun a b => by rw [hst]; rfl) ⟨⟨t, hst⟩, trivial⟩ ht (by rw [hst]; rfl) (fun a => by simp)
        · rw [decide_eq_false k3, cond_false]; exact none_
end
end Go.Proofs.Ytcpageegmpjkiaa.K

namespace Go.Proofs.Ytcpageegmpjkiaa.K
open Go.RowKit Go.Lib

structure wf_GArr2_Int (x : GArr2_Int) : Prop where
  a0 : (inK .i64) x.a0
  a1 : (inK .i64) x.a1
theorem td_22 {ds : List D} (h : TD Try.prog 22 ds) : ∃ x : GArr2_Int, ds = enc_GArr2_Int x ∧ wf_GArr2_Int x := by
  obtain ⟨l, e, hl, hq⟩ := TD.of_array (enc := (encI .i64)) (Q := (inK .i64)) Try.underlying22 (fun {r} h => td_int Try.underlying3 h) h
  match l, hl with
  | [a0, a1], _ => exact ⟨⟨a0, a1⟩, e, ⟨hq a0 (by simp), hq a1 (by simp)⟩⟩
structure wf_GTurn_ (x : GTurn_) : Prop where
  Kind : wfT x.Kind
  W : (inK .i64) x.W
  A : (inK .i64) x.A
theorem td_78 {ds : List D} (h : TD Try.prog 78 ds) : ∃ x : GTurn_, ds = enc_GTurn_ x ∧ wf_GTurn_ x := by
  have h0 := TD.of_struct Try.underlying78 h
  obtain ⟨p0, q0, e0, t0, h1⟩ := h0
  obtain ⟨x0, f0, w0⟩ := td_u8 Try.underlying5 t0
  obtain ⟨p1, q1, e1, t1, h2⟩ := h1
  obtain ⟨x1, f1, w1⟩ := td_int Try.underlying3 t1
  obtain ⟨p2, q2, e2, t2, h3⟩ := h2
  obtain ⟨x2, f2, w2⟩ := td_int Try.underlying3 t2
  have h3 : q2 = [] := h3
  refine ⟨⟨x0, x1, x2⟩, ?_, ⟨w0, w1, w2⟩⟩
  rw [e0, f0, e1, f1, e2, f2, h3]; rfl
end Go.Proofs.Ytcpageegmpjkiaa.K

namespace Go.Proofs.Ytcpageegmpjkiaa.K
open Go.RowKit Go.Lib
theorem drops_no {l r : List GChange} (h : ∀ k, frn l k ≤ frn r k) : dropsB l r = false := by
  cases hd : dropsB l r with
  | false => rfl
  | true =>
    obtain ⟨k, _, _, hk⟩ := dropsB_iff.1 hd
    have := h k
    omega
section
variable {W L A VL VA B : Nat} {x x' : GNet} {books books' : List GBook} {things things' : List Int} {g g' : Gh}
def LeastB (W : Nat) (books : List GBook) (s r : Int) : Prop := r ≤ s ∧ (∀ i t, i < W → books[i]? = some (bk t true) → r ≤ t) ∧ (r = s ∨ ∃ i t, i < W ∧ books[i]? = some (bk t true) ∧ r = t)
theorem least_l3 (c : GTcrew) (hb : ∀ i, i < c.books.length → ∃ t h, c.books[i]? = some (bk t h)) (hl : c.books.length ≤ 1000000) (s : Int) : ∃ r, m_w29_crew_least_l3 c 1152921504606846976 s 0 = some r ∧ LeastB c.books.length c.books s r := by
  have key := loopG_0 (L := fun fu s i => m_w29_crew_least_l3 c fu s i) (n := c.books.length) (P := fun k s o => ∃ r, o = some r ∧ r ≤ s ∧ (∀ i t, k ≤ i → i < c.books.length → c.books[i]? = some (bk t true) → r ≤ t) ∧ (r = s ∨ ∃ i t, i < c.books.length ∧ c.books[i]? = some (bk t true) ∧ r = t)) (by omega)
    (fun fu s => by
      unfold m_w29_crew_least_l3
      rw [d_nlt (by omega), cond_false]
      exact ⟨s, rfl, Int.le_refl _, fun i t h1 h2 => by omega, .inl rfl⟩)
    (fun fu s k hk ih => by
      obtain ⟨t, h, hg⟩ := hb k hk
      unfold m_w29_crew_least_l3
      rw [d_lt (by omega), cond_true, geti_nat, hg, obind_some, get_bk, obind_some, inc_ok (by omega)]
      simp only []
      rw [cond_true]
      cases h with
      | true =>
        rw [cond_true]
        obtain ⟨r, e, h1, h2, h3⟩ := ih (min s t)
        refine ⟨r, e, by omega, fun i t' hi hi2 hbi => ?_, ?_⟩
        · by_cases he : i = k
          · subst he
            rw [hg] at hbi
            have : t = t' := by simpa [bk] using hbi
            omega
          · exact h2 i t' (by omega) hi2 hbi
        · rcases h3 with h3 | h3
          · by_cases hst : s ≤ t
            · exact .inl (by omega)
            · exact .inr ⟨k, t, hk, hg, by omega⟩
          · exact .inr h3
      | false =>
        rw [cond_false]
        obtain ⟨r, e, h1, h2, h3⟩ := ih s
        refine ⟨r, e, h1, fun i t' hi hi2 hbi => ?_, h3⟩
        by_cases he : i = k
        · subst he
          rw [hg] at hbi
          simp [bk] at hbi
        · exact h2 i t' (by omega) hi2 hbi) s
  obtain ⟨r, e, h1, h2, h3⟩ := key
  exact ⟨r, e, h1, fun i t hi => h2 i t (Nat.zero_le _) hi, h3⟩
def Least (W : Nat) (books : List GBook) (things : List Int) (r : Int) : Prop := r ≤ 1099511627777 ∧ (∀ i t, i < W → books[i]? = some (bk t true) → r ≤ t) ∧ (∀ a ∈ things, r ≤ a) ∧ (r = 1099511627777 ∨ r ∈ things ∨ ∃ i t, i < W ∧ books[i]? = some (bk t true) ∧ r = t)
theorem least_ok (c : GTcrew) (hb : ∀ i, i < c.books.length → ∃ t h, c.books[i]? = some (bk t h)) (hl : c.books.length ≤ 1000000) (ht : c.things.length ≤ 1000000) : ∃ r, m_w29_crew_least c = some r ∧ Least c.books.length c.books c.things r := by
  unfold m_w29_crew_least
  have key := loopG_0 (L := fun fu s i => m_w29_crew_least_l0 c fu s i) (n := c.things.length) (P := fun k s o => ∃ r, o = some r ∧ r ≤ s ∧ (∀ i t, i < c.books.length → c.books[i]? = some (bk t true) → r ≤ t) ∧ (∀ a ∈ c.things.drop k, r ≤ a) ∧ (r = s ∨ r ∈ c.things ∨ ∃ i t, i < c.books.length ∧ c.books[i]? = some (bk t true) ∧ r = t)) (by omega)
    (fun fu s => by
      unfold m_w29_crew_least_l0
      rw [d_nlt (by omega), cond_false]
      obtain ⟨r, e, h1, h2, h3⟩ := least_l3 c hb hl s
      exact ⟨r, e, h1, h2, by simp, h3.elim .inl fun h => .inr (.inr h)⟩)
    (fun fu s k hk ih => by
      unfold m_w29_crew_least_l0
      rw [d_lt (by omega), cond_true, geti_lt hk, obind_some, inc_ok (by omega)]
      obtain ⟨r, e, h1, h2, h3, h4⟩ := ih (min s c.things[k])
      refine ⟨r, e, by omega, h2, fun a ha => ?_, ?_⟩
      · rw [drop_cons hk] at ha
        rcases List.mem_cons.1 ha with rfl | ha
        · omega
        · exact h3 a ha
      · rcases h4 with h4 | h4
        · by_cases hst : s ≤ c.things[k]
          · exact .inl (by omega)
          · exact .inr (.inl (by rw [show r = c.things[k] by omega]; exact List.getElem_mem hk))
        · exact .inr h4) 1099511627777
  obtain ⟨r, e, h1, h2, h3, h4⟩ := key
  exact ⟨r, e, h1, h2, by simpa using h3, h4⟩
theorem GI.front_le (h : GI W x books things g) {r : Int} (hr : Least W books things r) {j : Nat} (hj : j < W) : frn (x.Views.getD j []) 1 ≤ r := by
  obtain ⟨_, _, _, h4⟩ := hr
  rcases h4 with rfl | h4 | ⟨i, t, hi, hb, rfl⟩
  · exact (frn_spec (x.Views.getD j []) 1).1.2
  · exact h.safe_thing hj h4
  · obtain ⟨t', h', hb', ht', hs⟩ := h.book i hi
    rw [hb] at hb'
    have : r = t' ∧ h' = true := by
      simp [bk] at hb'
      exact ⟨hb'.1, hb'.2⟩
    obtain ⟨rfl, rfl⟩ := this
    rw [if_pos rfl] at hs
    exact h.safe_leave hi hj ht'.1 hs
theorem GI.idle_le (h : GI W x books things g) (hid : (∀ l ∈ x.Pending, l = []) ∧ ml x.Links = []) {r : Int} (hr : Least W books things r) {j : Nat} (hj : j < W) : r ≤ frn (x.Views.getD j []) 1 := by
  obtain ⟨h1, h2, h3, _⟩ := hr
  obtain ⟨_, _, q⟩ := frn_spec (x.Views.getD j []) 1
  rcases q with q | ⟨a, b, _, hp, e⟩
  · omega
  · rcases h.idle hid hj hp with ⟨_, i, hi, hs⟩ | ⟨_, hm⟩
    · obtain ⟨t, hd, hb, ht, hst⟩ := h.book i hi
      cases hd with
      | true =>
        rw [if_pos rfl, hs] at hst
        have : b = t := by simpa using hst
        have := h2 i t hi hb
        omega
      | false => rw [hs] at hst; simp at hst
    · have := h3 b hm
      omega
theorem safe_l16 {c : GTcrew × List GBook} (h0 : GI W x books things g) (h : GI W c.1.net books' things' g') (hle : g.le W g') (n0 : NI W L A VL VA B x) (hn : NI W L A VL VA B c.1.net) (hW : W ≤ 4) (hV : VL ≤ 1000000 ∧ VA ≤ 1000000) {r : Int} (hr : Least W books' things' r) {y : Int} {k : Int → (List (List GChange)) → (List (List GChange)) → (Option (List (GArr2_Int × (List (List GChange))))) → (List GBook) → (List Int) → Int → Option Bool}
    (hk : k c.1.net.Cap c.1.net.Views c.1.net.Pending c.1.net.Links c.2 c.1.things (IntKind.i64.wrap (y + 1)) = some true) :
    m_w29_ViewSafe_l16 c r y x.Views k 1152921504606846976 0 = some true := by
  have hv0 := n0.vlen
  have hv := hn.vlen
  exact loop1_0 (L := fun fu j => m_w29_ViewSafe_l16 c r y x.Views k fu j) (n := W) (P := fun j o => o = some true) (by omega)
    (fun fu => by unfold m_w29_ViewSafe_l16; rw [d_nlt (by omega), cond_false, hk])
    (fun fu j hj ih => by
      have hj0 : j < x.Views.length := by omega
      have hj1 : j < c.1.net.Views.length := by omega
      have s0' := (n0.vg j).1
      have s1 := (hn.vg j).1
      have e0 := getD_in (d := []) hj0
      have e1 := getD_in (d := []) hj1
      have f1 := h.front_le hr hj
      have f2 := h0.front h hle hj
      rw [e0] at s0'
      rw [e1] at s1 f1
      simp only [e0, e1] at f2
      have m0 : small x.Views[j] := ⟨by omega, by omega⟩
      have m1 : small c.1.net.Views[j] := ⟨by omega, by omega⟩
      unfold m_w29_ViewSafe_l16
      rw [d_lt (by omega), cond_true, front_in hj1 m1, obind_some, d_nlt (by omega), cond_false, geti_lt hj0, obind_some, geti_lt hj1, obind_some, drops_ok m0 m1, obind_some, drops_no f2, cond_false, idle_ok (by rw [hn.plen]; omega), obind_some, inc_ok (by omega)]
      by_cases hid : (∀ l ∈ c.1.net.Pending, l = []) ∧ ml c.1.net.Links = []
      · have f3 := h.idle_le hid hr hj
        rw [e1] at f3
        rw [decide_eq_true hid, cond_true, decide_eq_false (by omega), cond_false]
        exact ih
      · rw [decide_eq_false hid, cond_false]; exact ih)
structure SI (W r : Nat) (x : GNet) (books : List GBook) (things : List Int) (g : Gh) : Prop where
  gi : GI W x books things g
  ni : NI W (2 * r) (2 * r) (4 + 130 * r) (4 + 130 * r) r x
  tl : things.length ≤ r
end
def g0 : Gh := ⟨fun _ => [], fun _ => [], fun _ _ => 0⟩
theorem rep_at : ∀ (W : Nat) (a b : Int), atp (List.replicate W (⟨0, 0, 1⟩ : GChange)) a b = if a = 0 ∧ b = 0 then (W : Int) else 0
  | 0, a, b => by simp [atp]
  | W + 1, a, b => by
    rw [List.replicate_succ]
    have := rep_at W a b
    unfold atp
    rw [this]
    by_cases h : a = 0 ∧ b = 0
    · obtain ⟨rfl, rfl⟩ := h; simp; omega
    · rw [if_neg h, if_neg h, if_neg (fun e => h ⟨e.1.symm, e.2.symm⟩)]; rfl
theorem rep_abs : ∀ W : Nat, absum (List.replicate W (⟨0, 0, 1⟩ : GChange)) = W
  | 0 => rfl
  | W + 1 => by rw [List.replicate_succ]; unfold absum; rw [rep_abs W]; simp; omega
theorem gi0 (W : Nat) (most : Int) : GI W ⟨most, List.replicate W (nrm (List.replicate W ⟨0, 0, 1⟩)), List.replicate W [], some []⟩ (List.replicate W (bk 0 true)) [] g0 where
  blen := by simp
  ok := fun i hi => trivial
  book := fun i hi => ⟨0, true, by simp [hi], by omega, rfl⟩
  pend := fun i hi a b => by
    rw [List.getD_eq_getElem?_getD]
    simp only [List.getElem?_replicate, hi, if_true]
    rfl
  dn := fun i j hi hj => rfl
  bat := fun i j hi hj e z hz => by
    have : lk (ml (some ([] : Lks))) (i : Int) (j : Int) = [] := rfl
    simp only [] at hz
    rw [this] at hz
    simp at hz
  view := fun j hj a b => by
    rw [List.getD_eq_getElem?_getD]
    simp only [List.getElem?_replicate, hj, if_true, Option.getD_some]
    rw [nrm_at, rep_at]
    have : sumZ (fun i => atp (csF s0 (g0.pre i (g0.d i j))) a b) W = 0 := by
      rw [← sumZ_zero (n := W)]
      exact sumZ_congr fun i _ => rfl
    rw [this]; omega
  thing := fun a => by
    have : sumZ (fun i => atp (csF s0 (g0.all i)) 1 a) W = 0 := by
      rw [← sumZ_zero (n := W)]
      exact sumZ_congr fun i _ => rfl
    rw [this]; rfl
  tim := fun a ha => by cases ha
theorem safe_l9 {W : Nat} (hW : W ≤ 4) (hW0 : 0 < W) {p1 : List GTurn_} (hp : p1.length ≤ 60) : ∀ (n fu i : Nat) (x : GNet) (books : List GBook) (things : List Int) (g : Gh), i + n = p1.length → n < fu → SI W i x books things g → m_w29_ViewSafe_l9 p1 fu x.Cap x.Views x.Pending x.Links books things (i : Int) = some true := by
  intro n
  induction n with
  | zero =>
    intro fu i x books things g hi hf hT
    obtain ⟨fu, rfl⟩ : ∃ k, fu = k + 1 := ⟨fu - 1, by omega⟩
    unfold m_w29_ViewSafe_l9
    rw [d_nlt (by omega), cond_false, awk29]; rfl
  | succ n ih =>
    intro fu i x books things g hi hf hT
    obtain ⟨fu, rfl⟩ : ∃ k, fu = k + 1 := ⟨fu - 1, by omega⟩
    have hil : i < p1.length := by omega
    obtain ⟨hg, hn, htl⟩ := hT
    unfold m_w29_ViewSafe_l9
    rw [d_lt (by omega), cond_true, geti_lt hil, obind_some]
    by_cases hneg : p1[i].W < 0
    · rw [d_lt hneg, cond_true, awk29]; rfl
    rw [d_nlt hneg, cond_false, obind_some]
    obtain ⟨x', books', things', g', e, q1, q2, q3, q4⟩ := turn_ok (p := p1[i]) hg hn hW hW0 (by omega) (by omega) (by omega) (by omega) (by omega)
    have hx : (⟨x.Cap, x.Views, x.Pending, x.Links⟩ : GNet) = x := rfl
    have hb' := q1.blen
    have hv' := q2.vlen
    have hv := hn.vlen
    rw [hx, e, obind_some]
    simp only []
    obtain ⟨r, er, hr⟩ := least_ok ⟨x', books', things'⟩ (fun i hi => by
      obtain ⟨t, h, hb, _⟩ := q1.book i (by rw [← hb']; exact hi)
      exact ⟨t, h, hb⟩) (by show books'.length ≤ _; omega) (by show things'.length ≤ _; omega)
    rw [er, obind_some, decide_eq_false (by rw [hv', hv]; simp), cond_false]
    have hr' : Least W books' things' r := by rw [← hb']; exact hr
    have q2' : NI W (2 * (i + 1)) (2 * (i + 1)) (4 + 130 * (i + 1)) (4 + 130 * (i + 1)) (i + 1) x' := q2.mono (by omega) (by omega) (by omega) (by omega) (by omega)
    have hn' : NI W (2 * (i + 1)) (2 * (i + 1)) (4 + 130 * (i + 1)) (4 + 130 * (i + 1)) (i + 1) x := hn.mono (by omega) (by omega) (by omega) (by omega) (by omega)
    exact safe_l16 (c := (⟨x', books', things'⟩, books')) hg q1 q3 hn' q2' hW ⟨by omega, by omega⟩ hr' (by
      simp only []
      rw [inc_ok (by omega)]
      exact ih fu (i + 1) x' books' things' g' (by omega) (by omega) ⟨q1, q2', by omega⟩)
theorem main_ViewSafe (p0 : GArr2_Int) (p1 : List GTurn_) (h0 : wf_GArr2_Int p0) (h1 : wfL wf_GTurn_ p1) : m_w29_ViewSafe p0 p1 = some true := by
  have j1 : m_w29_ViewSafe_j1 = some true := by
    unfold m_w29_ViewSafe_j1
    rw [awk29]; rfl
  unfold m_w29_ViewSafe
  rw [j1]
  by_cases a1 : p0.a0 < 1
  · rw [d_lt a1, cond_true]
  by_cases a2 : 4 < p0.a0
  · rw [d_nlt a1, cond_false, d_lt a2, cond_true]
  by_cases a3 : p0.a1 < 1
  · rw [d_nlt a1, cond_false, d_nlt a2, cond_false, d_lt a3, cond_true]
  by_cases a4 : 8 < p0.a1
  · rw [d_nlt a1, cond_false, d_nlt a2, cond_false, d_nlt a3, cond_false, d_lt a4, cond_true]
  rw [d_nlt a1, cond_false, d_nlt a2, cond_false, d_nlt a3, cond_false, d_nlt a4, cond_false]
  by_cases hl : 60 < p1.length
  · rw [d_lt (by omega), cond_true, awk29]; rfl
  rw [d_nlt (by omega), cond_false]
  obtain ⟨W, hW⟩ : ∃ W : Nat, p0.a0 = (W : Int) := ⟨p0.a0.toNat, by omega⟩
  have key : ∀ (n fu i : Nat), i + n = W → n < fu → m_w29_ViewSafe_l4 p0 p1 fu (List.replicate i (bk 0 true)) (List.replicate i ⟨0, 0, 1⟩) (i : Int) = some true := by
    intro n
    induction n with
    | zero =>
      intro fu i hi hf
      obtain ⟨fu, rfl⟩ : ∃ k, fu = k + 1 := ⟨fu - 1, by omega⟩
      obtain rfl : i = W := by omega
      unfold m_w29_ViewSafe_l4
      have sm : small (List.replicate i (⟨0, 0, 1⟩ : GChange)) := ⟨by simp; omega, by rw [rep_abs]; omega⟩
      rw [d_nlt (by omega), cond_false, new_ok sm (by omega), obind_some]
      simp only []
      rw [decide_eq_false (by simp), cond_false]
      have e0 : p0.a0.toNat = i := by omega
      rw [e0]
      have hN : NI i (2 * 0) (2 * 0) (4 + 130 * 0) (4 + 130 * 0) 0 (⟨p0.a1, List.replicate i (nrm (List.replicate i ⟨0, 0, 1⟩)), List.replicate i [], some []⟩ : GNet) := NI.new.mono (by omega) (by omega) (by simp; omega) (by rw [rep_abs]; omega) (by omega)
      have hk := safe_l9 (W := i) (by omega) (by omega) (p1 := p1) (by omega) p1.length 1152921504606846976 0 _ _ _ g0 (by omega) (by omega) ⟨gi0 i p0.a1, hN, by simp⟩
      generalize (1152921504606846976 : Nat) = fu at hk ⊢
      exact hk
    | succ n ih =>
      intro fu i hi hf
      obtain ⟨fu, rfl⟩ : ∃ k, fu = k + 1 := ⟨fu - 1, by omega⟩
      unfold m_w29_ViewSafe_l4
      rw [d_lt (by omega), cond_true, hold_0, obind_some]
      simp only []
      rw [decide_eq_false (by simp), cond_false, app_ok (by simp; omega), obind_some, app_ok (by simp; omega), obind_some, inc_ok (by omega), ← List.replicate_succ', ← List.replicate_succ']
      exact ih fu (i + 1) (by omega) (by omega)
  have hk := key W 1152921504606846976 0 (by omega) (by omega)
  clear key
  generalize (1152921504606846976 : Nat) = fu at hk ⊢
  exact hk
end Go.Proofs.Ytcpageegmpjkiaa.K
