/- The library's stable sort: plain. (printed by psort.py) -/
import Derived.Test.YtbgioanegbipgaaLM
import Derived.Test.YtbgioanegbipgaaPsl
namespace Go.Proofs.Ytbgioanegbipgaa.K
open Go.RowKit Go.Lib
set_option linter.unusedVariables false
set_option linter.unusedSimpArgs false
namespace m_event_order_sort
theorem swr_l {P M post : List GEvent} : ∀ (X2 Y2 X1 Y1 : List GEvent) (fu : Nat) (n b : Int), X2.length = Y2.length → X1.length = Y1.length → X2.length < fu → n = (X1.length : Int) + X2.length → b = (P.length : Int) + n + M.length → b + n ≤ 1000000000 →
    m_slices_swapRangeCmpFunc_event_Event__event_order_l0 (P.length : Int) b n fu (P ++ (Y1 ++ (X2 ++ (M ++ (X1 ++ (Y2 ++ post)))))) (X1.length : Int) = some (P ++ (Y1 ++ (Y2 ++ (M ++ (X1 ++ (X2 ++ post))))))
  | _, _, _, _, 0, _, _, _, _, h, _, _, _ => by omega
  | [], Y2, X1, Y1, fu + 1, n, b, h1, h2, h3, hn, hb, hB => by
    obtain rfl : Y2 = [] := List.eq_nil_of_length_eq_zero (by simpa using h1.symm)
    unfold m_slices_swapRangeCmpFunc_event_Event__event_order_l0
    simp only [List.length_nil] at hn
    rw [d_nlt (by omega), cond_false]
  | x :: X2, [], X1, Y1, fu + 1, n, b, h1, h2, h3, hn, hb, hB => by simp at h1
  | x :: X2, y :: Y2, X1, Y1, fu + 1, n, b, h1, h2, h3, hn, hb, hB => by
    simp only [List.length_cons] at h1 h3 hn
    have e : P ++ (Y1 ++ (x :: X2 ++ (M ++ (X1 ++ (y :: Y2 ++ post))))) = (P ++ Y1) ++ x :: ((X2 ++ (M ++ X1)) ++ y :: (Y2 ++ post)) := by simp
    obtain ⟨k1, k2, k3, k4⟩ := swp (i := (P.length : Int) + (X1.length : Int)) (j := b + (X1.length : Int)) e (by simp; omega) (by simp; omega)
    unfold m_slices_swapRangeCmpFunc_event_Event__event_order_l0
    rw [d_lt (by omega), cond_true, w64 (n := b + (X1.length : Int)) (by omega) (by omega), w64 (n := (P.length : Int) + (X1.length : Int)) (by omega) (by omega), k2, obind_some, k1, obind_some, obind_some, k3, obind_some, k4, inc_ok (by omega)]
    have ih := swr_l (P := P) (M := M) (post := post) X2 Y2 (X1 ++ [x]) (Y1 ++ [y]) fu n b (by omega) (by simp; omega) (by omega) (by simp; omega) hb hB
    have e2 : (P ++ Y1) ++ y :: ((X2 ++ (M ++ X1)) ++ x :: (Y2 ++ post)) = P ++ (Y1 ++ [y] ++ (X2 ++ (M ++ (X1 ++ [x] ++ (Y2 ++ post))))) := by simp
    have e3 : (((X1 ++ [x]).length : Nat) : Int) = ((X1.length + 1 : Nat) : Int) := by simp
    rw [e2]
    rw [e3] at ih
    rw [ih]; simp
theorem swr {P X M Y post : List GEvent} {b n a : Int} (h : X.length = Y.length) (ha : a = (P.length : Int)) (hn : n = (X.length : Int)) (hb : b = (P.length : Int) + X.length + M.length) (hB : b + n ≤ 1000000000) :
    m_slices_swapRangeCmpFunc_event_Event__event_order (P ++ (X ++ (M ++ (Y ++ post)))) a b n = some (P ++ (Y ++ (M ++ (X ++ post)))) := by
  subst ha
  unfold m_slices_swapRangeCmpFunc_event_Event__event_order
  have := swr_l (P := P) (M := M) (post := post) X Y [] [] 1152921504606846976 n b h rfl (by omega) (by simpa using hn) (by omega) hB
  simpa using this
theorem rot_l : ∀ (fu : Nat) (P A B post : List GEvent) (p : Int), A ≠ [] → B ≠ [] → A.length + B.length < fu → p = (P.length : Int) + A.length → (P.length : Int) + A.length + B.length ≤ 500000000 →
    m_slices_rotateCmpFunc_event_Event__event_order_l0 p fu (P ++ (A ++ (B ++ post))) (A.length : Int) (B.length : Int) = some (P ++ (B ++ (A ++ post)))
  | 0, _, _, _, _, _, _, _, h, _, _ => by omega
  | fu + 1, P, A, B, post, p, hA, hB, hf, hp, hb => by
    have hA0 : 0 < A.length := List.length_pos_iff.2 hA
    have hB0 : 0 < B.length := List.length_pos_iff.2 hB
    unfold m_slices_rotateCmpFunc_event_Event__event_order_l0
    by_cases h1 : A.length = B.length
    · rw [decide_eq_false (by omega), cond_false, w64 (by omega) (by omega)]
      have := swr (P := P) (X := A) (M := []) (Y := B) (post := post) (a := p - (A.length : Int)) (b := p) (n := (A.length : Int)) h1 (by omega) rfl (by simp; omega) (by omega)
      simp only [List.nil_append] at this
      rw [this, obind_some]
    · rw [decide_eq_true (by omega), cond_true]
      by_cases h2 : B.length < A.length
      · rw [d_lt (by omega), cond_true, w64 (n := p - (A.length : Int)) (by omega) (by omega), w64 (n := (A.length : Int) - (B.length : Int)) (by omega) (by omega)]
        have eA : A = A.take B.length ++ A.drop B.length := (List.take_append_drop _ _).symm
        have l1 : (A.take B.length).length = B.length := by rw [List.length_take]; omega
        have l2 : (A.drop B.length).length = A.length - B.length := List.length_drop
        have := swr (P := P) (X := A.take B.length) (M := A.drop B.length) (Y := B) (post := post) (a := p - (A.length : Int)) (b := p) (n := (B.length : Int)) l1 (by omega) (by omega) (by omega) (by omega)
        have e : P ++ (A ++ (B ++ post)) = P ++ (A.take B.length ++ (A.drop B.length ++ (B ++ post))) := by conv => lhs; rw [eA]; simp only [List.append_assoc]
        rw [e, this, obind_some]
        have ih := rot_l fu (P ++ B) (A.drop B.length) (A.take B.length) post p (List.ne_nil_of_length_pos (by omega)) (List.ne_nil_of_length_pos (by omega)) (by omega) (by simp; omega) (by simp; omega)
        rw [l1, l2] at ih
        have e2 : P ++ (B ++ (A.drop B.length ++ (A.take B.length ++ post))) = P ++ B ++ (A.drop B.length ++ (A.take B.length ++ post)) := by simp
        rw [e2, show (A.length : Int) - (B.length : Int) = ((A.length - B.length : Nat) : Int) by omega, ih]
        conv => rhs; rw [eA]
        simp only [List.append_assoc]
      · rw [d_nlt (by omega), cond_false, w64 (n := p - (A.length : Int)) (by omega) (by omega), w64 (n := p + (B.length : Int)) (by omega) (by omega), w64 (n := p + (B.length : Int) - (A.length : Int)) (by omega) (by omega), w64 (n := (B.length : Int) - (A.length : Int)) (by omega) (by omega)]
        have eB : B = B.take (B.length - A.length) ++ B.drop (B.length - A.length) := (List.take_append_drop _ _).symm
        have l1 : (B.take (B.length - A.length)).length = B.length - A.length := by rw [List.length_take]; omega
        have l2 : (B.drop (B.length - A.length)).length = A.length := by rw [List.length_drop]; omega
        have := swr (P := P) (X := A) (M := B.take (B.length - A.length)) (Y := B.drop (B.length - A.length)) (post := post) (a := p - (A.length : Int)) (b := p + (B.length : Int) - (A.length : Int)) (n := (A.length : Int)) (by omega) (by omega) (by omega) (by omega) (by omega)
        have e : P ++ (A ++ (B ++ post)) = P ++ (A ++ (B.take (B.length - A.length) ++ (B.drop (B.length - A.length) ++ post))) := by conv => lhs; rw [eB]; simp only [List.append_assoc]
        rw [e, this, obind_some]
        have ih := rot_l fu P (B.drop (B.length - A.length)) (B.take (B.length - A.length)) (A ++ post) p (List.ne_nil_of_length_pos (by omega)) (List.ne_nil_of_length_pos (by omega)) (by omega) (by omega) (by omega)
        rw [l1, l2] at ih
        rw [show (B.length : Int) - (A.length : Int) = ((B.length - A.length : Nat) : Int) by omega, ih]
        conv => rhs; rw [eB]
        simp only [List.append_assoc]
theorem rot {P A B post : List GEvent} {a p b : Int} (hA : A ≠ []) (hB : B ≠ []) (ha : a = (P.length : Int)) (hp : p = (P.length : Int) + A.length) (hb : b = (P.length : Int) + A.length + B.length) (hx : b ≤ 500000000) :
    m_slices_rotateCmpFunc_event_Event__event_order (P ++ (A ++ (B ++ post))) a p b = some (P ++ (B ++ (A ++ post))) := by
  unfold m_slices_rotateCmpFunc_event_Event__event_order
  rw [w64 (n := p - a) (by omega) (by omega), w64 (n := b - p) (by omega) (by omega), show p - a = (A.length : Int) by omega, show b - p = (B.length : Int) by omega]
  exact rot_l _ P A B post p hA hB (by omega) hp (by omega)
/-! ### one is moved -/
theorem mv_up {x : GEvent} {post : List GEvent} : ∀ (Y : List GEvent) (fu : Nat) (P : List GEvent) (k : Int), Y.length < fu → k = (P.length : Int) + Y.length + 1 → k ≤ 500000000 → m_slices_symMergeCmpFunc_event_Event__event_order_l4 k fu (P ++ x :: (Y ++ post)) (P.length : Int) = some (P ++ (Y ++ x :: post))
  | _, 0, _, _, h, _, _ => by omega
  | [], fu + 1, P, k, hf, hk, hb => by
    unfold m_slices_symMergeCmpFunc_event_Event__event_order_l4
    simp only [List.length_nil] at hk
    rw [w64 (n := k - 1) (by omega) (by omega), d_nlt (by omega), cond_false]; rfl
  | y :: Y, fu + 1, P, k, hf, hk, hb => by
    simp only [List.length_cons] at hk hf
    obtain ⟨k1, k2, k3, k4⟩ := swp (l := P ++ x :: (y :: Y ++ post)) (p := P) (x := x) (m := []) (y := y) (q := Y ++ post) (i := (P.length : Int)) (j := (P.length : Int) + 1) rfl rfl (by simp)
    unfold m_slices_symMergeCmpFunc_event_Event__event_order_l4
    rw [w64 (n := k - 1) (by omega) (by omega), d_lt (by omega), cond_true, w64 (n := (P.length : Int) + 1) (by omega) (by omega), k2, obind_some, k1, obind_some, obind_some, k3, obind_some, k4]
    have ih := mv_up (x := x) (post := post) Y fu (P ++ [y]) k (by omega) (by simp; omega) hb
    rw [show (((P ++ [y]).length : Nat) : Int) = (P.length : Int) + 1 by simp] at ih
    simp only [List.append_assoc, List.cons_append, List.nil_append] at ih ⊢
    exact ih
theorem mv_dn {x : GEvent} {P : List GEvent} : ∀ (n : Nat) (Y post : List GEvent) (fu : Nat) (k : Int), Y.length = n → n < fu → k = (P.length : Int) + n → k ≤ 500000000 → m_slices_symMergeCmpFunc_event_Event__event_order_l10 (P.length : Int) fu (P ++ (Y ++ x :: post)) k = some (P ++ x :: (Y ++ post))
  | _, _, _, 0, _, _, h, _, _ => by omega
  | 0, Y, post, fu + 1, k, hn, hf, hk, hb => by
    obtain rfl : Y = [] := List.eq_nil_of_length_eq_zero hn
    unfold m_slices_symMergeCmpFunc_event_Event__event_order_l10
    rw [d_nlt (by omega), cond_false]; rfl
  | n + 1, Y, post, fu + 1, k, hn, hf, hk, hb => by
    obtain ⟨Z, y, rfl⟩ : ∃ Z y, Y = Z ++ [y] := ⟨Y.dropLast, Y.getLast (List.ne_nil_of_length_pos (by omega)), (List.dropLast_concat_getLast _).symm⟩
    simp only [List.length_append, List.length_singleton] at hn
    have e : P ++ (Z ++ [y] ++ x :: post) = (P ++ Z) ++ y :: ([] ++ x :: post) := by simp
    obtain ⟨k1, k2, k3, k4⟩ := swp' (i := k - 1) (j := k) e (by simp; omega) (by simp; omega)
    unfold m_slices_symMergeCmpFunc_event_Event__event_order_l10
    rw [d_lt (by omega), cond_true, w64 (n := k - 1) (by omega) (by omega), k1, obind_some, k2, obind_some, obind_some, k3, obind_some, k4]
    have ih := mv_dn (x := x) (P := P) n Z (y :: post) fu (k - 1) (by omega) (by omega) (by omega) (by omega)
    simp only [List.append_assoc, List.cons_append, List.nil_append] at ih ⊢
    exact ih
/-! ### insertion -/
section
variable {Q : GEvent → Prop} {c : GEvent → GEvent → Int} (hc : ∀ x y, Q x → Q y → m_event_order x y = some (c x y)) (O : Ord Q (ltc c))
include hc O
theorem ins_in {x : GEvent} {P : List GEvent} {k : List GEvent → Int → Option (List GEvent)} {y8 : Int} (hx : Q x) : ∀ (n : Nat) (S rest : List GEvent) (fu : Nat) (j : Int), S.length = n → n < fu → j = (P.length : Int) + n → j ≤ 500000000 → Srt (ltc c) S → (∀ z ∈ S, Q z) →
    m_slices_insertionSortCmpFunc_event_Event__event_order_l1 (P.length : Int) y8 k fu (P ++ (S ++ x :: rest)) j = k (P ++ (insS (ltc c) S x ++ rest)) (IntKind.i64.wrap (y8 + 1))
  | _, _, _, 0, _, _, h, _, _, _, _ => by omega
  | 0, S, rest, fu + 1, j, hn, hf, hj, hb, hs, hq => by
    obtain rfl : S = [] := List.eq_nil_of_length_eq_zero hn
    unfold m_slices_insertionSortCmpFunc_event_Event__event_order_l1
    rw [d_nlt (by omega), cond_false]; rfl
  | n + 1, S, rest, fu + 1, j, hn, hf, hj, hb, hs, hq => by
    obtain ⟨Z, y, rfl⟩ : ∃ Z y, S = Z ++ [y] := ⟨S.dropLast, S.getLast (List.ne_nil_of_length_pos (by omega)), (List.dropLast_concat_getLast _).symm⟩
    simp only [List.length_append, List.length_singleton] at hn
    have e : P ++ (Z ++ [y] ++ x :: rest) = (P ++ Z) ++ y :: ([] ++ x :: rest) := by simp
    obtain ⟨k1, k2, k3, k4⟩ := swp' (i := j - 1) (j := j) e (by simp; omega) (by simp; omega)
    have hs' := Srt.app.1 hs
    have hy : Q y := hq y (by simp)
    unfold m_slices_insertionSortCmpFunc_event_Event__event_order_l1
    rw [d_lt (by omega), cond_true, w64 (n := j - 1) (by omega) (by omega), k2, obind_some, k1, obind_some, hc x y hx hy, obind_some]
    by_cases hl : c x y < 0
    · rw [d_lt hl, cond_true, obind_some, obind_some, obind_some, k3, obind_some, k4, insS_snoc (lt := ltc c) hl]
      have ih := ins_in (P := P) (k := k) (y8 := y8) hx n Z (y :: rest) fu (j - 1) (by omega) (by omega) (by omega) (by omega) hs'.1 (fun z hz => hq z (by simp [hz]))
      simp only [List.append_assoc, List.cons_append, List.nil_append] at ih ⊢
      exact ih
    · rw [d_nlt hl, cond_false, insS_end fun z hz => ?_]
      · simp
      · rcases List.mem_append.1 hz with hz | hz
        · have h1 := hs'.2.2 z hz y (by simp)
          exact O.trans z y x (hq z (by simp [hz])) hy hx h1 hl
        · simp only [List.mem_singleton] at hz; subst hz; exact hl
theorem ins_out {P post : List GEvent} {p2 : Int} : ∀ (T S : List GEvent) (fu : Nat) (y8 : Int), T.length < fu → y8 = (P.length : Int) + S.length → p2 = (P.length : Int) + S.length + T.length → p2 ≤ 500000000 → Srt (ltc c) S → (∀ z ∈ S, Q z) → (∀ z ∈ T, Q z) →
    m_slices_insertionSortCmpFunc_event_Event__event_order_l0 (P.length : Int) p2 fu (P ++ (S ++ (T ++ post))) y8 = some (P ++ (T.foldl (insS (ltc c)) S ++ post))
  | _, _, 0, _, h, _, _, _, _, _, _ => by omega
  | [], S, fu + 1, y8, hf, h8, h2, hb, hs, hq, ht => by
    unfold m_slices_insertionSortCmpFunc_event_Event__event_order_l0
    simp only [List.length_nil] at h2
    rw [d_nlt (by omega), cond_false]; rfl
  | x :: T, S, fu + 1, y8, hf, h8, h2, hb, hs, hq, ht => by
    simp only [List.length_cons] at h2 hf
    have hx := ht x (by simp)
    have := ins_in hc O (P := P) (k := fun y0_0 y8_0 => m_slices_insertionSortCmpFunc_event_Event__event_order_l0 (P.length : Int) p2 fu y0_0 y8_0) (y8 := y8) hx S.length S (T ++ post) 1152921504606846976 y8 rfl (by omega) h8 (by omega) hs hq
    unfold m_slices_insertionSortCmpFunc_event_Event__event_order_l0
    rw [d_lt (by omega), cond_true, List.cons_append, this, w64 (by omega) (by omega), List.foldl_cons]
    have hp := insS_perm (lt := ltc c) S x
    have hl := hp.length_eq
    simp only [List.length_append, List.length_singleton] at hl
    exact ins_out T (insS (ltc c) S x) fu (y8 + 1) (by omega) (by omega) (by omega) hb (insS_srt O hs hq hx) (fun z hz => by
      rcases List.mem_append.1 (hp.mem_iff.1 hz) with h | h
      · exact hq z h
      · simp only [List.mem_singleton] at h; subst h; exact hx) (fun z hz => ht z (by simp [hz]))
theorem ins_ok {P A post : List GEvent} {a b : Int} (ha : a = (P.length : Int)) (hb : b = (P.length : Int) + A.length) (hB : b ≤ 500000000) (hq : ∀ z ∈ A, Q z) : m_slices_insertionSortCmpFunc_event_Event__event_order (P ++ (A ++ post)) a b = some (P ++ (isort (ltc c) A ++ post)) := by
  subst ha
  unfold m_slices_insertionSortCmpFunc_event_Event__event_order
  rw [w64 (by omega) (by omega)]
  cases A with
  | nil =>
    show m_slices_insertionSortCmpFunc_event_Event__event_order_l0 _ _ (1152921504606846975 + 1) _ _ = _
    unfold m_slices_insertionSortCmpFunc_event_Event__event_order_l0
    simp only [List.length_nil] at hb
    rw [d_nlt (by omega), cond_false]; rfl
  | cons x T =>
    simp only [List.length_cons] at hb
    have := ins_out hc O (P := P) (post := post) (p2 := b) T [x] 1152921504606846976 ((P.length : Int) + 1) (by omega) (by simp) (by simp; omega) hB (Srt.one x) (fun z hz => by simp at hz; subst hz; exact hq z (by simp)) (fun z hz => hq z (by simp [hz]))
    exact this
/-! ### two are merged -/
theorem sym_ok : ∀ (fu : Nat) (P A B post : List GEvent) (p1 p2 p3 : Int), A ≠ [] → B ≠ [] → A.length + B.length < fu → p1 = (P.length : Int) → p2 = (P.length : Int) + A.length → p3 = (P.length : Int) + A.length + B.length → p3 ≤ 200000000 →
    (∀ z ∈ A, Q z) → (∀ z ∈ B, Q z) → Srt (ltc c) A → Srt (ltc c) B → ∃ C, C.Perm (A ++ B) ∧ Srt (ltc c) C ∧ m_slices_symMergeCmpFunc_event_Event__event_order fu (P ++ (A ++ (B ++ post))) p1 p2 p3 = some (P ++ (C ++ post))
  | 0, _, _, _, _, _, _, _, _, _, h, _, _, _, _, _, _, _, _ => by omega
  | fu + 1, P, A, B, post, p1, p2, p3, hA, hB, hf, h1, h2, h3, hb, qA, qB, sA, sB => by
    have hA0 : 0 < A.length := List.length_pos_iff.2 hA
    have hB0 : 0 < B.length := List.length_pos_iff.2 hB
    unfold m_slices_symMergeCmpFunc_event_Event__event_order
    by_cases ca : A.length = 1
    · obtain ⟨x, rfl⟩ := List.length_eq_one_iff.1 ca
      have hx : Q x := qA x (by simp)
      rw [w64 (n := p2 - p1) (by omega) (by omega), decide_eq_true (by simp at h2; omega), cond_true]
      simp only [List.length_singleton] at h2 h3 hf
      have key := half_loop (L := fun fu i j => m_slices_symMergeCmpFunc_event_Event__event_order_l0 (P ++ ([x] ++ (B ++ post))) p1 fu i j) (K := fun s => m_slices_symMergeCmpFunc_event_Event__event_order_l4 s 1152921504606846976 (P ++ ([x] ++ (B ++ post))) p1) (Pd := fun k => ltc c (B.getD (k - (P.length + 1)) default) x) (lo := P.length + 1) (hi := P.length + 1 + B.length)
        (fun fu i => by
          show m_slices_symMergeCmpFunc_event_Event__event_order_l0 _ _ (fu + 1) _ _ = _
          unfold m_slices_symMergeCmpFunc_event_Event__event_order_l0
          rw [d_nlt (by omega), cond_false])
        (fun fu i j hi hij hj => by
          show m_slices_symMergeCmpFunc_event_Event__event_order_l0 _ _ (fu + 1) _ _ = _
          conv => lhs; unfold m_slices_symMergeCmpFunc_event_Event__event_order_l0
          have ht : (i + j) / 2 - (P.length + 1) < B.length := by omega
          have g1 := geti_trd (P := P) (A := [x]) (B := B) (R := post) (d := default) (i := (((i + j) / 2 : Nat) : Int)) ht (by simp; omega)
          have g2 : geti (P ++ ([x] ++ (B ++ post))) p1 = some x := geti_at (p := P) (q := B ++ post) rfl h1
          rw [d_lt (by omega), cond_true, half_ok (by omega), g1, obind_some, g2, obind_some, hc _ _ (by rw [getD_lt ht]; exact qB _ (List.getElem_mem _)) hx, obind_some, inc_ok (by omega), obind_some]
          by_cases hl : c (B.getD ((i + j) / 2 - (P.length + 1)) default) x < 0
          · rw [d_lt hl, cond_true, if_pos hl]
          · rw [d_nlt hl, cond_false, if_neg hl])
        (fun k d h1 h2 h3 hd => by
          have hk : k - (P.length + 1) < B.length := by omega
          have hd' : d - (P.length + 1) < B.length := by omega
          simp only [getD_lt hk, getD_lt hd'] at hd ⊢
          refine Classical.byContradiction fun hn => ?_
          exact O.trans _ _ _ hx (qB _ (List.getElem_mem _)) (qB _ (List.getElem_mem _)) hn (Srt.at' O sB qB (i := k - (P.length + 1)) (j := d - (P.length + 1)) (by omega) hd') hd)
        1152921504606846976 (P.length + 1) (P.length + 1 + B.length) (Nat.le_refl _) (by omega) (Nat.le_refl _) (by omega) (fun c h1 h2 => by omega) (fun c h1 h2 => by omega)
      obtain ⟨s, s1, s2, hL, sa, sb⟩ := key
      have e1 : ((P.length + 1 : Nat) : Int) = p2 := by omega
      have e2 : ((P.length + 1 + B.length : Nat) : Int) = p3 := by omega
      simp only [e1, e2] at hL
      rw [hL]
      obtain ⟨t, rfl⟩ : ∃ t, s = P.length + 1 + t := ⟨s - (P.length + 1), by omega⟩
      have a1 : ∀ z ∈ B.take t, ltc c z x := take_pd (d := default) (pd := fun z => ltc c z x) (fun k hk => by have := sa (P.length + 1 + k) (by omega) (by omega); rwa [show P.length + 1 + k - (P.length + 1) = k by omega] at this) (by omega)
      have a2 : ∀ z ∈ B.drop t, ¬ ltc c z x := drop_pd (d := default) (pd := fun z => ¬ ltc c z x) (fun k hk hk2 => by have := sb (P.length + 1 + k) (by omega) (by omega); rwa [show P.length + 1 + k - (P.length + 1) = k by omega] at this)
      have eB : B = B.take t ++ B.drop t := (List.take_append_drop _ _).symm
      have lt1 : (B.take t).length = t := by rw [List.length_take]; omega
      have hs := sB
      rw [eB, Srt.app] at hs
      refine ⟨B.take t ++ x :: B.drop t, ?_, Srt.app.2 ⟨hs.1, List.pairwise_cons.2 ⟨a2, hs.2.1⟩, fun a ha b hb => ?_⟩, ?_⟩
      · have : (B.take t ++ x :: B.drop t).Perm (x :: (B.take t ++ B.drop t)) := List.perm_middle
        rw [List.take_append_drop] at this; exact this
      · rcases List.mem_cons.1 hb with rfl | hb
        · exact O.asym _ _ (qB a (List.mem_of_mem_take ha)) hx (a1 a ha)
        · exact hs.2.2 a ha b hb
      · have := mv_up (x := x) (post := B.drop t ++ post) (B.take t) 1152921504606846976 P ((P.length + 1 + t : Nat) : Int) (by omega) (by omega) (by omega)
        have e3 : P ++ ([x] ++ (B ++ post)) = P ++ x :: (B.take t ++ (B.drop t ++ post)) := by conv => lhs; rw [eB]; simp only [List.append_assoc, List.cons_append, List.nil_append]
        rw [e3, h1, this]; simp only [List.append_assoc, List.cons_append]
    · rw [w64 (n := p2 - p1) (by omega) (by omega), decide_eq_false (by omega), cond_false]
      by_cases cb : B.length = 1
      · obtain ⟨x, rfl⟩ := List.length_eq_one_iff.1 cb
        have hx : Q x := qB x (by simp)
        rw [w64 (n := p3 - p2) (by omega) (by omega), decide_eq_true (by simp at h3; omega), cond_true]
        simp only [List.length_singleton] at h3 hf
        have key := half_loop (L := fun fu i j => m_slices_symMergeCmpFunc_event_Event__event_order_l6 (P ++ (A ++ ([x] ++ post))) p2 fu i j) (K := fun s => m_slices_symMergeCmpFunc_event_Event__event_order_l10 s 1152921504606846976 (P ++ (A ++ ([x] ++ post))) p2) (Pd := fun k => ¬ ltc c x (A.getD (k - P.length) default)) (lo := P.length) (hi := P.length + A.length)
          (fun fu i => by
            show m_slices_symMergeCmpFunc_event_Event__event_order_l6 _ _ (fu + 1) _ _ = _
            unfold m_slices_symMergeCmpFunc_event_Event__event_order_l6
            rw [d_nlt (by omega), cond_false])
          (fun fu i j hi hij hj => by
            show m_slices_symMergeCmpFunc_event_Event__event_order_l6 _ _ (fu + 1) _ _ = _
            conv => lhs; unfold m_slices_symMergeCmpFunc_event_Event__event_order_l6
            have ht : (i + j) / 2 - P.length < A.length := by omega
            have g1 := geti_snd (P := P) (A := A) (R := [x] ++ post) (d := default) (i := (((i + j) / 2 : Nat) : Int)) ht (by omega)
            have g2 : geti (P ++ (A ++ ([x] ++ post))) p2 = some x := geti_at (p := P ++ A) (q := post) (by simp) (by simp; omega)
            rw [d_lt (by omega), cond_true, half_ok (by omega), g2, obind_some, g1, obind_some, hc _ _ hx (by rw [getD_lt ht]; exact qA _ (List.getElem_mem _)), obind_some, inc_ok (by omega), obind_some]
            by_cases hl : c x (A.getD ((i + j) / 2 - P.length) default) < 0
            · rw [d_lt hl, Bool.not_true, cond_false, if_neg (fun h => h hl)]
            · rw [d_nlt hl, Bool.not_false, cond_true, if_pos hl])
          (fun k d h1 h2 h3 hd => by
            have hk : k - P.length < A.length := by omega
            have hd' : d - P.length < A.length := by omega
            simp only [getD_lt hk, getD_lt hd'] at hd ⊢
            exact O.trans _ _ _ (qA _ (List.getElem_mem _)) (qA _ (List.getElem_mem _)) hx (Srt.at' O sA qA (i := k - P.length) (j := d - P.length) (by omega) hd') hd)
          1152921504606846976 P.length (P.length + A.length) (Nat.le_refl _) (by omega) (Nat.le_refl _) (by omega) (fun c h1 h2 => by omega) (fun c h1 h2 => by omega)
        obtain ⟨s, s1, s2, hL, sa, sb⟩ := key
        have e2 : ((P.length + A.length : Nat) : Int) = p2 := by omega
        simp only [e2, ← h1] at hL
        rw [hL]
        obtain ⟨t, rfl⟩ : ∃ t, s = P.length + t := ⟨s - P.length, by omega⟩
        have a1 : ∀ z ∈ A.take t, ¬ ltc c x z := take_pd (d := default) (pd := fun z => ¬ ltc c x z) (fun k hk => by have := sa (P.length + k) (by omega) (by omega); rwa [show P.length + k - P.length = k by omega] at this) (by omega)
        have a2 : ∀ z ∈ A.drop t, ltc c x z := drop_pd (d := default) (pd := fun z => ltc c x z) (fun k hk hk2 => by have := sb (P.length + k) (by omega) (by omega); rw [show P.length + k - P.length = k by omega] at this; exact Classical.not_not.1 this)
        have eA : A = A.take t ++ A.drop t := (List.take_append_drop _ _).symm
        have lt1 : (A.take t).length = t := by rw [List.length_take]; omega
        have ld1 : (A.drop t).length = A.length - t := List.length_drop
        have hs := sA
        rw [eA, Srt.app] at hs
        refine ⟨A.take t ++ x :: A.drop t, ?_, Srt.app.2 ⟨hs.1, List.pairwise_cons.2 ⟨fun b hb => ?_, hs.2.1⟩, fun a ha b hb => ?_⟩, ?_⟩
        · have : (A.take t ++ x :: A.drop t).Perm (x :: (A.take t ++ A.drop t)) := List.perm_middle
          rw [List.take_append_drop] at this
          exact this.trans (List.perm_append_singleton _ _).symm
        · exact O.asym _ _ hx (qA b (List.mem_of_mem_drop hb)) (a2 b hb)
        · rcases List.mem_cons.1 hb with rfl | hb
          · exact a1 a ha
          · exact hs.2.2 a ha b hb
        · have := mv_dn (x := x) (P := P ++ A.take t) (A.length - t) (A.drop t) post 1152921504606846976 p2 ld1 (by omega) (by simp; omega) (by omega)
          have e3 : P ++ (A ++ ([x] ++ post)) = P ++ A.take t ++ (A.drop t ++ x :: post) := by
            rw [List.append_assoc]
            conv => lhs; rw [eA]; simp only [List.append_assoc, List.cons_append, List.nil_append]
          have e4 : (((P ++ A.take t).length : Nat) : Int) = ((P.length + t : Nat) : Int) := by simp; omega
          rw [e4] at this
          rw [e3, this]; simp only [List.append_assoc, List.cons_append]
      · rw [w64 (n := p3 - p2) (by omega) (by omega), decide_eq_false (by omega), cond_false]
        -- the general case
        have hm : p1 + p3 = ((2 * P.length + A.length + B.length : Nat) : Int) := by omega
        generalize hmid : (2 * P.length + A.length + B.length) / 2 = mid
        have emid : IntKind.i64.wrap (Int.fdiv (IntKind.u64.wrap (IntKind.i64.wrap (p1 + p3))) (2 ^ 1)) = (mid : Int) := by
          have := half_ok (i := P.length) (j := P.length + A.length + B.length) (by omega)
          rw [show (P.length : Int) + ((P.length + A.length + B.length : Nat) : Int) = p1 + p3 by omega] at this
          rw [this]; congr 1; omega
        simp only [emid]
        rw [w64 (n := (mid : Int) + p2) (by omega) (by omega), obind_some]
        -- the search from lo to hi
        have search : ∀ lo hi : Nat, P.length ≤ lo → lo ≤ hi → hi ≤ P.length + A.length → hi ≤ mid → mid ≤ lo + B.length → (lo = P.length ∨ lo + B.length = mid) → (hi = mid ∨ hi = P.length + A.length) →
            ∃ C, C.Perm (A ++ B) ∧ Srt (ltc c) C ∧ m_slices_symMergeCmpFunc_event_Event__event_order_j14 (P ++ (A ++ (B ++ post))) p1 p2 p3 ((mid : Int) + p2) (fun p0 p1 p2 p3 => m_slices_symMergeCmpFunc_event_Event__event_order fu p0 p1 p2 p3) (lo : Int) (hi : Int) = some (P ++ (C ++ post)) := by
          intro lo hi l1 l2 l3 l4 l5 l6 l7
          unfold m_slices_symMergeCmpFunc_event_Event__event_order_j14
          have key := half_loop (L := fun fu' i j => m_slices_symMergeCmpFunc_event_Event__event_order_l15 (P ++ (A ++ (B ++ post))) p1 p2 p3 ((mid : Int) + p2) (fun p0 p1 p2 p3 => m_slices_symMergeCmpFunc_event_Event__event_order fu p0 p1 p2 p3) fu' i j)
            (K := fun s => cond (decide (s < p2)) (cond (decide (p2 < (IntKind.i64.wrap ((mid : Int) + p2 - s)))) (Option.bind (m_slices_rotateCmpFunc_event_Event__event_order (P ++ (A ++ (B ++ post))) s p2 (IntKind.i64.wrap ((mid : Int) + p2 - s))) fun r => m_slices_symMergeCmpFunc_event_Event__event_order_j21 p1 p3 ((mid : Int) + p2) s (fun p0 p1 p2 p3 => m_slices_symMergeCmpFunc_event_Event__event_order fu p0 p1 p2 p3) r)
              (m_slices_symMergeCmpFunc_event_Event__event_order_j21 p1 p3 ((mid : Int) + p2) s (fun p0 p1 p2 p3 => m_slices_symMergeCmpFunc_event_Event__event_order fu p0 p1 p2 p3) (P ++ (A ++ (B ++ post))))) (m_slices_symMergeCmpFunc_event_Event__event_order_j21 p1 p3 ((mid : Int) + p2) s (fun p0 p1 p2 p3 => m_slices_symMergeCmpFunc_event_Event__event_order fu p0 p1 p2 p3) (P ++ (A ++ (B ++ post)))))
            (Pd := fun k => ¬ ltc c (B.getD (mid - 1 - k) default) (A.getD (k - P.length) default)) (lo := lo) (hi := hi)
            (fun fu i => by
              show m_slices_symMergeCmpFunc_event_Event__event_order_l15 _ _ _ _ _ _ (fu + 1) _ _ = _
              unfold m_slices_symMergeCmpFunc_event_Event__event_order_l15
              rw [d_nlt (by omega), cond_false])
            (fun fu i j hi' hij hj => by
              show m_slices_symMergeCmpFunc_event_Event__event_order_l15 _ _ _ _ _ _ (fu + 1) _ _ = _
              conv => lhs; unfold m_slices_symMergeCmpFunc_event_Event__event_order_l15
              have ht : (i + j) / 2 - P.length < A.length := by omega
              have ht2 : mid - 1 - (i + j) / 2 < B.length := by omega
              have g1 := geti_snd (P := P) (A := A) (R := B ++ post) (d := default) (i := (((i + j) / 2 : Nat) : Int)) ht (by omega)
              have g2 := geti_trd (P := P) (A := A) (B := B) (R := post) (d := default) (i := (mid : Int) + p2 - 1 - (((i + j) / 2 : Nat) : Int)) ht2 (by omega)
              rw [d_lt (by omega), cond_true, half_ok (by omega), w64 (n := (mid : Int) + p2 - 1) (by omega) (by omega), w64 (n := (mid : Int) + p2 - 1 - (((i + j) / 2 : Nat) : Int)) (by omega) (by omega), obind_some, g2, obind_some, g1, obind_some,
                hc _ _ (by rw [getD_lt ht2]; exact qB _ (List.getElem_mem _)) (by rw [getD_lt ht]; exact qA _ (List.getElem_mem _)), obind_some, inc_ok (by omega), obind_some]
              by_cases hl : c (B.getD (mid - 1 - (i + j) / 2) default) (A.getD ((i + j) / 2 - P.length) default) < 0
              · rw [d_lt hl, Bool.not_true, cond_false, if_neg (fun h => h hl)]
              · rw [d_nlt hl, Bool.not_false, cond_true, if_pos hl])
            (fun k d h1 h2 h3 hd => by
              have k1 : k - P.length < A.length := by omega
              have d1 : d - P.length < A.length := by omega
              have k2 : mid - 1 - k < B.length := by omega
              have d2 : mid - 1 - d < B.length := by omega
              simp only [getD_lt k1, getD_lt d1, getD_lt k2, getD_lt d2] at hd ⊢
              refine O.trans _ _ _ (qA _ (List.getElem_mem _)) (qA _ (List.getElem_mem _)) (qB _ (List.getElem_mem _)) (Srt.at' O sA qA (i := k - P.length) (j := d - P.length) (by omega) d1) ?_
              exact O.trans _ _ _ (qA _ (List.getElem_mem _)) (qB _ (List.getElem_mem _)) (qB _ (List.getElem_mem _)) hd (Srt.at' O sB qB (i := mid - 1 - d) (j := mid - 1 - k) (by omega) k2))
            1152921504606846976 lo hi (Nat.le_refl _) l2 (Nat.le_refl _) (by omega) (fun c h1 h2 => by omega) (fun c h1 h2 => by omega)
          obtain ⟨s, s1, s2, hL, sa, sb⟩ := key
          rw [hL]
          clear hL
          have ea : A = A.take (s - P.length) ++ A.drop (s - P.length) := (List.take_append_drop _ _).symm
          have eb : B = B.take (mid - s) ++ B.drop (mid - s) := (List.take_append_drop _ _).symm
          have la1 : (A.take (s - P.length)).length = s - P.length := by rw [List.length_take]; omega
          have la2 : (A.drop (s - P.length)).length = A.length - (s - P.length) := List.length_drop
          have lb1 : (B.take (mid - s)).length = mid - s := by rw [List.length_take]; omega
          have lb2 : (B.drop (mid - s)).length = B.length - (mid - s) := List.length_drop
          have hsA := sA
          rw [ea, Srt.app] at hsA
          have hsB := sB
          rw [eb, Srt.app] at hsB
          have qA1 : ∀ z ∈ A.take (s - P.length), Q z := fun z hz => qA z (List.mem_of_mem_take hz)
          have qA2 : ∀ z ∈ A.drop (s - P.length), Q z := fun z hz => qA z (List.mem_of_mem_drop hz)
          have qB1 : ∀ z ∈ B.take (mid - s), Q z := fun z hz => qB z (List.mem_of_mem_take hz)
          have qB2 : ∀ z ∈ B.drop (mid - s), Q z := fun z hz => qB z (List.mem_of_mem_drop hz)
          -- the last of the first part is not beyond the second one's rest
          have x1 : ∀ a ∈ A.take (s - P.length), ∀ b ∈ B.drop (mid - s), ¬ ltc c b a := by
            intro a ha b hb
            obtain ⟨i, hi1, rfl⟩ := List.mem_iff_getElem.1 ha
            obtain ⟨j, hj1, rfl⟩ := List.mem_iff_getElem.1 hb
            rw [la1] at hi1; rw [lb2] at hj1
            rw [List.getElem_take, List.getElem_drop]
            have hs1 : lo < s := by
              rcases l6 with h | h
              · omega
              · omega
            have := sa (s - 1) (by omega) (by omega)
            have t1 : s - 1 - P.length < A.length := by omega
            have t2 : mid - 1 - (s - 1) < B.length := by omega
            simp only [getD_lt t1, getD_lt t2] at this
            refine O.trans _ _ _ (qA _ (List.getElem_mem _)) (qA _ (List.getElem_mem _)) (qB _ (List.getElem_mem _)) (Srt.at' O sA qA (i := i) (j := s - 1 - P.length) (by omega) t1) ?_
            exact O.trans _ _ _ (qA _ (List.getElem_mem _)) (qB _ (List.getElem_mem _)) (qB _ (List.getElem_mem _)) this (Srt.at' O sB qB (i := mid - 1 - (s - 1)) (j := mid - s + j) (by omega) (by omega))
          have x2 : ∀ b ∈ B.take (mid - s), ∀ a ∈ A.drop (s - P.length), ¬ ltc c a b := by
            intro b hb a ha
            obtain ⟨i, hi1, rfl⟩ := List.mem_iff_getElem.1 ha
            obtain ⟨j, hj1, rfl⟩ := List.mem_iff_getElem.1 hb
            rw [la2] at hi1; rw [lb1] at hj1
            rw [List.getElem_take, List.getElem_drop]
            have hs1 : s < hi := by
              rcases l7 with h | h
              · omega
              · omega
            have := sb s (by omega) (by omega)
            have t1 : s - P.length < A.length := by omega
            have t2 : mid - 1 - s < B.length := by omega
            simp only [getD_lt t1, getD_lt t2, Classical.not_not] at this
            have this := O.asym _ _ (qB _ (List.getElem_mem _)) (qA _ (List.getElem_mem _)) this
            refine O.trans _ _ _ (qB _ (List.getElem_mem _)) (qB _ (List.getElem_mem _)) (qA _ (List.getElem_mem _)) (Srt.at' O sB qB (i := j) (j := mid - 1 - s) (by omega) t2) ?_
            exact O.trans _ _ _ (qB _ (List.getElem_mem _)) (qA _ (List.getElem_mem _)) (qA _ (List.getElem_mem _)) this (Srt.at' O sA qA (i := s - P.length) (j := s - P.length + i) (by omega) (by omega))
          -- behind the rotation
          have rest : ∃ C, C.Perm (A ++ B) ∧ Srt (ltc c) C ∧ m_slices_symMergeCmpFunc_event_Event__event_order_j21 p1 p3 ((mid : Int) + p2) (s : Int) (fun p0 p1 p2 p3 => m_slices_symMergeCmpFunc_event_Event__event_order fu p0 p1 p2 p3) (P ++ (A.take (s - P.length) ++ (B.take (mid - s) ++ (A.drop (s - P.length) ++ (B.drop (mid - s) ++ post))))) = some (P ++ (C ++ post)) := by
            have step1 : ∃ C1, C1.Perm (A.take (s - P.length) ++ B.take (mid - s)) ∧ Srt (ltc c) C1 ∧ ∀ R, m_slices_symMergeCmpFunc_event_Event__event_order_j21 p1 p3 ((mid : Int) + p2) (s : Int) (fun p0 p1 p2 p3 => m_slices_symMergeCmpFunc_event_Event__event_order fu p0 p1 p2 p3) (P ++ (A.take (s - P.length) ++ (B.take (mid - s) ++ (A.drop (s - P.length) ++ (B.drop (mid - s) ++ post))))) = R ↔
                m_slices_symMergeCmpFunc_event_Event__event_order_j24 p1 p3 ((mid : Int) + p2) (s : Int) (fun p0 p1 p2 p3 => m_slices_symMergeCmpFunc_event_Event__event_order fu p0 p1 p2 p3) (P ++ (C1 ++ (A.drop (s - P.length) ++ (B.drop (mid - s) ++ post)))) = R := by
              unfold m_slices_symMergeCmpFunc_event_Event__event_order_j21
              simp only [emid]
              by_cases z1 : P.length < s
              · rw [d_lt (by omega), cond_true]
                by_cases z2 : s < mid
                · rw [d_lt (by omega), cond_true]
                  obtain ⟨C1, c1, c2, c3⟩ := sym_ok fu P (A.take (s - P.length)) (B.take (mid - s)) (A.drop (s - P.length) ++ (B.drop (mid - s) ++ post)) p1 (s : Int) (mid : Int) (List.ne_nil_of_length_pos (by omega)) (List.ne_nil_of_length_pos (by omega)) (by omega) h1 (by omega) (by omega) (by omega) qA1 qB1 hsA.1 hsB.1
                  exact ⟨C1, c1, c2, fun R => by rw [c3, obind_some]⟩
                · rw [d_nlt (by omega), cond_false]
                  have : B.take (mid - s) = [] := List.eq_nil_of_length_eq_zero (by omega)
                  exact ⟨A.take (s - P.length), by rw [this, List.append_nil], hsA.1, fun R => by rw [this, List.nil_append]⟩
              · rw [d_nlt (by omega), cond_false]
                have : A.take (s - P.length) = [] := List.eq_nil_of_length_eq_zero (by omega)
                exact ⟨B.take (mid - s), by rw [this, List.nil_append], hsB.1, fun R => by rw [this, List.nil_append]⟩
            obtain ⟨C1, c1, c2, c3⟩ := step1
            have lc1 : C1.length = mid - P.length := by have := c1.length_eq; rw [List.length_append, la1, lb1] at this; omega
            have step2 : ∃ C2, C2.Perm (A.drop (s - P.length) ++ B.drop (mid - s)) ∧ Srt (ltc c) C2 ∧ m_slices_symMergeCmpFunc_event_Event__event_order_j24 p1 p3 ((mid : Int) + p2) (s : Int) (fun p0 p1 p2 p3 => m_slices_symMergeCmpFunc_event_Event__event_order fu p0 p1 p2 p3) (P ++ (C1 ++ (A.drop (s - P.length) ++ (B.drop (mid - s) ++ post)))) = some (P ++ (C1 ++ (C2 ++ post))) := by
              unfold m_slices_symMergeCmpFunc_event_Event__event_order_j24
              simp only [emid]
              rw [w64 (n := (mid : Int) + p2 - (s : Int)) (by omega) (by omega), obind_some]
              by_cases z1 : s < P.length + A.length
              · rw [d_lt (by omega), cond_true]
                by_cases z2 : mid - s < B.length
                · rw [d_lt (by omega), cond_true]
                  obtain ⟨C2, d1, d2, d3⟩ := sym_ok fu (P ++ C1) (A.drop (s - P.length)) (B.drop (mid - s)) post (mid : Int) ((mid : Int) + p2 - (s : Int)) p3 (List.ne_nil_of_length_pos (by omega)) (List.ne_nil_of_length_pos (by omega)) (by omega) (by simp; omega) (by simp; omega) (by simp; omega) (by omega) qA2 qB2 hsA.2.1 hsB.2.1
                  rw [List.append_assoc] at d3
                  exact ⟨C2, d1, d2, by rw [d3, obind_some]; simp only [List.append_assoc]⟩
                · rw [d_nlt (by omega), cond_false]
                  have : B.drop (mid - s) = [] := List.eq_nil_of_length_eq_zero (by omega)
                  exact ⟨A.drop (s - P.length), by rw [this, List.append_nil], hsA.2.1, by rw [this, List.nil_append]⟩
              · rw [d_nlt (by omega), cond_false]
                have : A.drop (s - P.length) = [] := List.eq_nil_of_length_eq_zero (by omega)
                exact ⟨B.drop (mid - s), by rw [this, List.nil_append], hsB.2.1, by rw [this, List.nil_append]⟩
            obtain ⟨C2, d1, d2, d3⟩ := step2
            refine ⟨C1 ++ C2, ?_, Srt.app.2 ⟨c2, d2, fun a ha b hb => ?_⟩, (c3 _).2 (by rw [d3]; simp only [List.append_assoc])⟩
            · refine (c1.append d1).trans ?_
              have e : A ++ B = A.take (s - P.length) ++ (A.drop (s - P.length) ++ (B.take (mid - s) ++ B.drop (mid - s))) := by
                rw [List.take_append_drop, ← List.append_assoc, List.take_append_drop]
              rw [e, List.append_assoc]
              refine List.Perm.append_left _ ?_
              rw [← List.append_assoc, ← List.append_assoc]
              exact List.Perm.append_right _ List.perm_append_comm
            · have h1 := List.mem_append.1 (c1.mem_iff.1 ha)
              have h2 := List.mem_append.1 (d1.mem_iff.1 hb)
              rcases h1 with h1 | h1 <;> rcases h2 with h2 | h2
              · exact hsA.2.2 a h1 b h2
              · exact x1 a h1 b h2
              · exact x2 a h1 b h2
              · exact hsB.2.2 a h1 b h2
          by_cases y1 : s < P.length + A.length
          · rw [d_lt (by omega), cond_true, w64 (n := (mid : Int) + p2 - (s : Int)) (by omega) (by omega)]
            by_cases y2 : s < mid
            · rw [d_lt (by omega), cond_true]
              have e : P ++ (A ++ (B ++ post)) = (P ++ A.take (s - P.length)) ++ (A.drop (s - P.length) ++ (B.take (mid - s) ++ (B.drop (mid - s) ++ post))) := by
                conv => lhs; rw [ea, eb]
                simp only [List.append_assoc]
              rw [e, rot (List.ne_nil_of_length_pos (by omega)) (List.ne_nil_of_length_pos (by omega)) (by simp; omega) (by simp; omega) (by simp; omega) (by omega), obind_some]
              simpa only [List.append_assoc] using rest
            · rw [d_nlt (by omega), cond_false]
              have hb1 : B.take (mid - s) = [] := List.eq_nil_of_length_eq_zero (by omega)
              have e : P ++ (A ++ (B ++ post)) = P ++ (A.take (s - P.length) ++ (B.take (mid - s) ++ (A.drop (s - P.length) ++ (B.drop (mid - s) ++ post)))) := by
                conv => lhs; rw [ea, eb, hb1]
                rw [hb1]; simp only [List.append_assoc, List.nil_append]
              rw [e]; exact rest
          · rw [d_nlt (by omega), cond_false]
            have ha2 : A.drop (s - P.length) = [] := List.eq_nil_of_length_eq_zero (by omega)
            have e : P ++ (A ++ (B ++ post)) = P ++ (A.take (s - P.length) ++ (B.take (mid - s) ++ (A.drop (s - P.length) ++ (B.drop (mid - s) ++ post)))) := by
              conv => lhs; rw [ea, eb, ha2]
              rw [ha2]; simp only [List.append_assoc, List.nil_append, List.append_nil]
            rw [e]; exact rest
        by_cases hcase : mid < P.length + A.length
        · rw [d_lt (by omega), cond_true, w64 (n := (mid : Int) + p2 - p3) (by omega) (by omega)]
          have := search (mid - B.length) mid (by omega) (by omega) (by omega) (Nat.le_refl _) (by omega) (.inr (by omega)) (.inl rfl)
          rwa [show ((mid - B.length : Nat) : Int) = (mid : Int) + p2 - p3 by omega] at this
        · rw [d_nlt (by omega), cond_false]
          have := search P.length (P.length + A.length) (Nat.le_refl _) (by omega) (Nat.le_refl _) (by omega) (by omega) (.inl rfl) (.inr rfl)
          rwa [show ((P.length + A.length : Nat) : Int) = p2 by omega, ← h1] at this
/-! ### block by block -/
theorem stb_0 {p1 : Int} : ∀ (fu : Nat) (D R : List GEvent) (y7 y8 : Int), R.length < fu → y7 = (D.length : Int) → y8 = (D.length : Int) + 20 → p1 = (D.length : Int) + R.length → p1 ≤ 200000000 → (∀ z ∈ R, Q z) →
    ∃ R', R'.Perm R ∧ Chunks (ltc c) 20 R' ∧ m_slices_stableCmpFunc_event_Event__event_order_l0 p1 fu (D ++ R) y7 y8 = m_slices_stableCmpFunc_event_Event__event_order_l3 p1 1152921504606846976 (D ++ R') 20
  | 0, _, _, _, _, h, _, _, _, _, _ => by omega
  | fu + 1, D, R, y7, y8, hf, h7, h8, h1, hb, hq => by
    unfold m_slices_stableCmpFunc_event_Event__event_order_l0
    by_cases h : y8 ≤ p1
    · rw [decide_eq_true h, cond_true]
      have eR : R = R.take 20 ++ R.drop 20 := (List.take_append_drop _ _).symm
      have l1 : (R.take 20).length = 20 := by rw [List.length_take]; omega
      have l2 : (R.drop 20).length = R.length - 20 := List.length_drop
      have := ins_ok hc O (P := D) (A := R.take 20) (post := R.drop 20) (a := y7) (b := y8) h7 (by omega) (by omega) (fun z hz => hq z (List.mem_of_mem_take hz))
      have hp := isort_perm (lt := ltc c) (R.take 20)
      have hpl := hp.length_eq
      obtain ⟨R', r1, r2, r3⟩ := stb_0 (p1 := p1) fu (D ++ isort (ltc c) (R.take 20)) (R.drop 20) y8 (y8 + 20) (by omega) (by simp; omega) (by simp; omega) (by simp; omega) hb (fun z hz => hq z (List.mem_of_mem_drop hz))
      refine ⟨isort (ltc c) (R.take 20) ++ R', ?_, .cons _ _ (by omega) (isort_srt O fun z hz => hq z (List.mem_of_mem_take hz)) r2, ?_⟩
      · conv => rhs; rw [eR]
        exact hp.append r1
      · rw [List.append_assoc] at r3
        rw [← eR] at this
        rw [this, obind_some, w64 (by omega) (by omega), r3, List.append_assoc]
    · rw [decide_eq_false h, cond_false]
      have := ins_ok hc O (P := D) (A := R) (post := []) (a := y7) (b := p1) h7 h1 (by omega) hq
      simp only [List.append_nil] at this
      rw [this, obind_some]
      have hp := isort_perm (lt := ltc c) R
      exact ⟨_, hp, .last _ (by have := hp.length_eq; omega) (isort_srt O hq), rfl⟩
theorem stb_4 {p1 : Int} {bs : Nat} {kk : List GEvent → Int → Option (List GEvent)} (hbs : 0 < bs) (hbb : bs ≤ 200000000) : ∀ (fu : Nat) (D R : List GEvent) (y7 y8 : Int), R.length < fu → y7 = (D.length : Int) → y8 = (D.length : Int) + 2 * bs → p1 = (D.length : Int) + R.length → p1 ≤ 200000000 → Chunks (ltc c) bs R → (∀ z ∈ R, Q z) →
    ∃ R', R'.Perm R ∧ Chunks (ltc c) (2 * bs) R' ∧ m_slices_stableCmpFunc_event_Event__event_order_l4 p1 (bs : Int) kk fu (D ++ R) y7 y8 = kk (D ++ R') ((2 * bs : Nat) : Int)
  | 0, _, _, _, _, h, _, _, _, _, _, _ => by omega
  | fu + 1, D, R, y7, y8, hf, h7, h8, h1, hb, hC, hq => by
    have e2 : IntKind.i64.wrap ((bs : Int) * 2) = ((2 * bs : Nat) : Int) := by rw [w64 (by omega) (by omega)]; omega
    unfold m_slices_stableCmpFunc_event_Event__event_order_l4
    rw [e2, w64 (n := y7 + (bs : Int)) (by omega) (by omega), w64 (n := 2 * (bs : Int)) (by omega) (by omega)]
    by_cases h : y8 ≤ p1
    · rw [decide_eq_true h, cond_true, w64 (n := y8 + 2 * (bs : Int)) (by omega) (by omega)]
      obtain ⟨c1, r, rfl, l1, s1, hr⟩ := hC.split (by omega)
      simp only [List.length_append] at h1 hf
      obtain ⟨c2, r2, rfl, l2, s2, hr2⟩ := hr.split (by omega)
      simp only [List.length_append] at h1 hf
      obtain ⟨C, k1, k2, k3⟩ := sym_ok hc O 1152921504606846976 D c1 c2 r2 y7 (y7 + (bs : Int)) y8 (List.ne_nil_of_length_pos (by omega)) (List.ne_nil_of_length_pos (by omega)) (by omega) h7 (by omega) (by omega) (by omega) (fun z hz => hq z (by simp [hz])) (fun z hz => hq z (by simp [hz])) s1 s2
      have hl := k1.length_eq
      rw [List.length_append] at hl
      rw [k3, obind_some]
      obtain ⟨R', r1, r2', r3⟩ := stb_4 (p1 := p1) (kk := kk) hbs hbb fu (D ++ C) r2 y8 (y8 + 2 * (bs : Int)) (by omega) (by simp; omega) (by simp; omega) (by simp; omega) hb hr2 (fun z hz => hq z (by simp [hz]))
      rw [List.append_assoc] at r3
      refine ⟨C ++ R', ?_, .cons _ _ (by omega) k2 r2', by rw [r3, List.append_assoc]⟩
      rw [← List.append_assoc]
      exact k1.append r1
    · rw [decide_eq_false h, cond_false]
      by_cases h2 : y7 + (bs : Int) < p1
      · rw [d_lt h2, cond_true]
        obtain ⟨c1, r, rfl, l1, s1, hr⟩ := hC.split (by omega)
        simp only [List.length_append] at h1 hf
        have s2 := hr.all (by omega)
        obtain ⟨C, k1, k2, k3⟩ := sym_ok hc O 1152921504606846976 D c1 r [] y7 (y7 + (bs : Int)) p1 (List.ne_nil_of_length_pos (by omega)) (List.ne_nil_of_length_pos (by omega)) (by omega) h7 (by omega) (by omega) (by omega) (fun z hz => hq z (by simp [hz])) (fun z hz => hq z (by simp [hz])) s1 s2
        have hl := k1.length_eq
        rw [List.length_append] at hl
        simp only [List.append_nil] at k3
        rw [k3, obind_some]
        exact ⟨C, k1, .last _ (by omega) k2, rfl⟩
      · rw [d_nlt h2, cond_false]
        exact ⟨R, List.Perm.refl _, .last _ (by omega) (hC.all (by omega)), rfl⟩
theorem stb_3 {p1 : Int} : ∀ (fu : Nat) (R : List GEvent) (bs : Nat), R.length < fu + bs → 0 < bs → bs ≤ 400000000 → p1 = (R.length : Int) → p1 ≤ 200000000 → Chunks (ltc c) bs R → (∀ z ∈ R, Q z) → 0 < fu →
    ∃ R', R'.Perm R ∧ Srt (ltc c) R' ∧ m_slices_stableCmpFunc_event_Event__event_order_l3 p1 fu R (bs : Int) = some R'
  | 0, _, _, _, _, _, _, _, _, _, h => by omega
  | fu + 1, R, bs, hf, h0, hbs, h1, hb, hC, hq, _ => by
    unfold m_slices_stableCmpFunc_event_Event__event_order_l3
    by_cases h : (bs : Int) < p1
    · rw [d_lt h, cond_true, w64 (n := 2 * (bs : Int)) (by omega) (by omega)]
      obtain ⟨R', r1, r2, r3⟩ := stb_4 hc O (p1 := p1) (kk := fun y0_3 y6_3 => m_slices_stableCmpFunc_event_Event__event_order_l3 p1 fu y0_3 y6_3) h0 (by omega) 1152921504606846976 [] R 0 (2 * (bs : Int)) (by omega) rfl (by simp) (by simpa using h1) hb hC hq
      simp only [List.nil_append] at r3
      rw [r3]
      have hl := r1.length_eq
      obtain ⟨R2, q1, q2, q3⟩ := stb_3 (p1 := p1) fu R' (2 * bs) (by omega) (by omega) (by omega) (by omega) hb r2 (fun z hz => hq z (r1.mem_iff.1 hz)) (by omega)
      exact ⟨R2, q1.trans r1, q2, q3⟩
    · rw [d_nlt h, cond_false]
      exact ⟨R, List.Perm.refl _, hC.all (by omega), rfl⟩
theorem stb_ok {l : List GEvent} (hl : l.length ≤ 200000000) (hq : ∀ z ∈ l, Q z) : ∃ l', l'.Perm l ∧ Srt (ltc c) l' ∧ m_slices_stableCmpFunc_event_Event__event_order l ((l.length : Nat) : Int) = some l' := by
  unfold m_slices_stableCmpFunc_event_Event__event_order
  obtain ⟨R, r1, r2, r3⟩ := stb_0 hc O (p1 := ((l.length : Nat) : Int)) 1152921504606846976 [] l 0 20 (by omega) rfl (by simp) (by simp) (by omega) hq
  simp only [List.nil_append] at r3
  rw [r3]
  have hll := r1.length_eq
  obtain ⟨R2, q1, q2, q3⟩ := stb_3 hc O (p1 := ((l.length : Nat) : Int)) 1152921504606846976 R 20 (by omega) (by omega) (by omega) (by omega) (by omega) r2 (fun z hz => hq z (r1.mem_iff.1 hz)) (by omega)
  exact ⟨R2, q1.trans r1, q2, q3⟩
/-- Up to twenty: by insertion alone. -/
theorem stb_small {l : List GEvent} (hl : l.length ≤ 20) (hq : ∀ z ∈ l, Q z) : m_slices_stableCmpFunc_event_Event__event_order l ((l.length : Nat) : Int) = some (isort (ltc c) l) := by
  have hp := isort_perm (lt := ltc c) l
  have hpl := hp.length_eq
  have fin : ∀ k : List GEvent, m_slices_stableCmpFunc_event_Event__event_order_l3 ((l.length : Nat) : Int) 1152921504606846976 k 20 = some k := fun k => by
    show m_slices_stableCmpFunc_event_Event__event_order_l3 _ (1152921504606846975 + 1) _ _ = _
    unfold m_slices_stableCmpFunc_event_Event__event_order_l3
    rw [d_nlt (by omega), cond_false]
  unfold m_slices_stableCmpFunc_event_Event__event_order
  show m_slices_stableCmpFunc_event_Event__event_order_l0 _ (1152921504606846974 + 1 + 1) _ _ _ = _
  unfold m_slices_stableCmpFunc_event_Event__event_order_l0
  by_cases h : l.length = 20
  · rw [decide_eq_true (by omega), cond_true]
    have := ins_ok hc O (P := []) (A := l) (post := []) (a := 0) (b := 20) rfl (by simp; omega) (by omega) hq
    simp only [List.append_nil, List.nil_append] at this
    rw [this, obind_some]
    unfold m_slices_stableCmpFunc_event_Event__event_order_l0
    rw [w64 (by omega) (by omega), decide_eq_false (by omega), cond_false]
    have h2 := ins_ok hc O (P := isort (ltc c) l) (A := []) (post := []) (a := 20) (b := ((l.length : Nat) : Int)) (by omega) (by simp; omega) (by omega) (by simp)
    simp only [List.append_nil] at h2
    have e : isort (ltc c) l ++ isort (ltc c) [] = isort (ltc c) l := by simp [isort]
    rw [e] at h2
    rw [h2, obind_some, fin]
  · rw [decide_eq_false (by omega), cond_false]
    have := ins_ok hc O (P := []) (A := l) (post := []) (a := 0) (b := ((l.length : Nat) : Int)) rfl (by simp) (by omega) hq
    simp only [List.append_nil, List.nil_append] at this
    rw [this, obind_some, fin]
end
end m_event_order_sort
end Go.Proofs.Ytbgioanegbipgaa.K
