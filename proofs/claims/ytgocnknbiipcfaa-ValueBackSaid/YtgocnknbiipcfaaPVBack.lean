/- ValueBack: plain. -/
import Derived.Test.YtgocnknbiipcfaaPvtake
import Derived.Test.YtgocnknbiipcfaaPzdec
import Derived.Test.YtgocnknbiipcfaaPvrank
import Derived.Test.YtgocnknbiipcfaaLO
namespace Go.Proofs.Ytgocnknbiipcfaa.K
open Go.RowKit Go.Lib
set_option linter.unusedVariables false
set_option linter.unusedSimpArgs false
theorem awk04b : m_telltalelaw04_awake = some true := by decide +kernel
theorem ztk_1 (k : UInt8) (t : List UInt8) : ztk (k :: t) ((1 : Nat) : Int) = zgo (k :: t) 1 (tk t 10 0 0) := by
  unfold ztk
  rw [if_neg (by simp only [List.length_cons]; omega)]
  rfl
theorem beN_snoc : ∀ (l : List UInt8) (a : Nat) (x : UInt8), beN a (l ++ [x]) = beN a l * 256 + x.toNat
  | [], a, x => rfl
  | y :: l, a, x => beN_snoc l (a * 256 + y.toNat) x
theorem beN_beB : ∀ (k u : Nat), u < 256 ^ k → beN 0 (beB k u) = u
  | 0, u, h => by simp at h; subst h; rfl
  | k + 1, u, h => by
    rw [Nat.pow_succ] at h
    rw [beB, beN_snoc, beN_beB k (u / 256) (by omega), UInt8.toNat_ofNat']; omega
theorem beB_beN : ∀ (n : Nat) (l : List UInt8), l.length = n → beB n (beN 0 l) = l
  | 0, l, h => by rw [List.length_eq_zero_iff.1 h]; rfl
  | n + 1, l, h => by
    have hne : l ≠ [] := fun e => by rw [e] at h; simp at h
    obtain ⟨r, x, rfl⟩ : ∃ r x, l = r ++ [x] := ⟨_, _, (List.dropLast_concat_getLast hne).symm⟩
    have hx := UInt8.toNat_lt x
    rw [beN_snoc, beB, show (beN 0 r * 256 + x.toNat) / 256 = beN 0 r by omega, show (beN 0 r * 256 + x.toNat) % 256 = x.toNat by omega, beB_beN n r (by simpa using h)]
    simp
theorem chk1 {v : GValue} (k1 : v.Kind.toNat = 1) (h : chkV v = 0) : v.Bits = 0 ∧ v.Text = [] := by
  unfold chkV at h
  rw [if_pos k1] at h
  split at h
  · omega
  · split at h
    · assumption
    · omega
theorem chk2 {v : GValue} (k2 : v.Kind.toNat = 2) (h : chkV v = 0) : (0 ≤ v.N ∧ v.N ≤ 1) ∧ v.Bits = 0 ∧ v.Text = [] := by
  unfold chkV at h
  rw [if_neg (by omega), if_pos k2] at h
  split at h
  · omega
  · split at h
    · exact ⟨by omega, by assumption⟩
    · omega
theorem chk3 {v : GValue} (k3 : v.Kind.toNat = 3) (h : chkV v = 0) : clean v.Bits = v.Bits ∧ v.N = 0 ∧ v.Text = [] := by
  unfold chkV at h
  rw [if_neg (by omega), if_neg (by omega), if_pos k3] at h
  split at h
  · omega
  · rename_i hc
    split at h
    · exact ⟨by simpa using hc, by assumption⟩
    · omega
theorem chk4 {v : GValue} (k4 : v.Kind.toNat = 4) (h : chkV v = 0) : v.Text.length ≤ 24 ∧ v.N = 0 ∧ v.Bits = 0 := by
  unfold chkV at h
  rw [if_neg (by omega), if_neg (by omega), if_neg (by omega), if_pos k4] at h
  split at h
  · omega
  · split at h
    · exact ⟨by omega, by assumption⟩
    · omega
theorem end_good {v : GValue} {n : Int} (h : chkV v = 0) : endV (v, n, 0) = (v, n, 0) := by
  unfold endV; rw [if_neg (by simp), if_neg (by simp [h])]
/-- What was put is taken. -/
theorem put_take {v : GValue} (hv : okB v) (hc : chkV v = 0) (r : List UInt8) : vtk ((v.Kind :: bytesV v) ++ r) 0 = (v, (((v.Kind :: bytesV v).length : Nat) : Int), 0) := by
  have hk := chk_range v
  unfold vtk
  rw [if_neg (by simp only [List.cons_append, List.length_cons]; omega), List.cons_append]
  show endV (bodyP v.Kind (v.Kind :: (bytesV v ++ r)) 1) = _
  obtain ⟨k, n, b, t⟩ := v
  simp only at *
  unfold bodyP
  rw [ztk_1]
  rcases hk with k1 | k2 | k3 | k4 | h
  · obtain ⟨h1, h2⟩ := chk1 (v := ⟨k, n, b, t⟩) k1 hc
    simp only at h1 h2
    subst h1; subst h2
    have hb : bytesV ⟨k, n, 0, []⟩ = zb (zfold n) := by unfold bytesV; rw [if_pos k1]
    rw [hb, if_pos k1, tk_put _ (zfold_lt n hv.N.1 hv.N.2)]
    unfold zgo
    simp only
    rw [if_pos trivial, zback_fold]
    show endV ((⟨k, n, 0, []⟩ : GValue), _, 0) = _
    rw [end_good hc]
    simp only [List.length_cons, zb_length]
    congr 2; omega
  · obtain ⟨h0, h1, h2⟩ := chk2 (v := ⟨k, n, b, t⟩) k2 hc
    simp only at h0 h1 h2
    subst h1; subst h2
    have hb : bytesV ⟨k, n, 0, []⟩ = [toU8 n] := by unfold bytesV; rw [if_neg (by simp only; omega), if_pos k2]
    have e : (((toU8 n).toNat : Nat) : Int) = n := by
      obtain ⟨m, rfl⟩ : ∃ m : Nat, n = m := ⟨n.toNat, by omega⟩
      rw [toU8_nat]; omega
    rw [hb, if_neg (by omega), if_pos k2]
    show endV ((⟨k, (((toU8 n).toNat : Nat) : Int), 0, []⟩ : GValue), _, 0) = _
    rw [e, end_good hc]
    rfl
  · obtain ⟨h0, h1, h2⟩ := chk3 (v := ⟨k, n, b, t⟩) k3 hc
    simp only at h0 h1 h2
    subst h1; subst h2
    have hb : bytesV ⟨k, 0, b, []⟩ = beB 8 b.toNat := by unfold bytesV; rw [if_neg (by simp only; omega), if_neg (by simp only; omega), if_pos k3]
    have hu := hv.B
    simp only at hu
    have hr : rdW (beB 8 b.toNat ++ r) = some b.toNat := by
      unfold rdW
      rw [if_neg (by rw [List.length_append, beB_len]; omega), List.take_left' (beB_len 8 _), beN_beB 8 _ (by have := hu.2; omega)]
    rw [hb, if_neg (by omega), if_neg (by omega), if_pos k3]
    rw [show List.drop 1 (k :: (beB 8 b.toNat ++ r)) = beB 8 b.toNat ++ r from rfl, hr]
    simp only
    rw [show ((b.toNat : Nat) : Int) = b by have := hu.1; omega]
    show endV ((⟨k, 0, b, []⟩ : GValue), _, 0) = _
    rw [end_good hc]
    simp only [List.length_cons, beB_len]
    rfl
  · obtain ⟨h0, h1, h2⟩ := chk4 (v := ⟨k, n, b, t⟩) k4 hc
    simp only at h0 h1 h2
    subst h1; subst h2
    have hb : bytesV ⟨k, 0, 0, t⟩ = zb t.length ++ t := by unfold bytesV; rw [if_neg (by simp only; omega), if_neg (by simp only; omega), if_neg (by simp only; omega)]
    rw [hb, if_neg (by omega), if_neg (by omega), if_neg (by omega), if_pos k4, List.append_assoc, tk_put _ (by omega)]
    unfold zgo
    simp only
    rw [if_neg (by simp), if_neg (by omega), if_pos trivial, if_neg (by simp [zb_length]; omega)]
    have ht : (List.drop (1 + zn t.length) (k :: (zb t.length ++ (t ++ r)))).take t.length = t := by
      rw [Nat.add_comm, List.drop_succ_cons, List.drop_left' (zb_length _), List.take_left' rfl]
    rw [ht]
    rw [end_good hc]
    simp only [List.length_cons, List.length_append, zb_length]
    congr 2; omega
  · rw [hc] at h; cases h
/-- What is taken has just these bytes. -/
theorem take_put {s : List UInt8} {x : GValue} {n : Int} (hs : s.length ≤ 1000) (h : vtk s 0 = (x, n, 0)) : chkV x = 0 ∧ okB x ∧ ∃ m : Nat, n = m ∧ m ≤ s.length ∧ x.Kind :: bytesV x = s.take m := by
  unfold vtk at h
  rw [if_neg (by simp)] at h
  cases s with
  | nil => simp at h
  | cons k t =>
    replace h : endV (bodyP k (k :: t) 1) = (x, n, 0) := h
    have hu := body_u (k := k) (l := k :: t) (a := 1)
    generalize hb : bodyP k (k :: t) 1 = y at h hu
    unfold endV at h
    by_cases c1 : y.2.2 ≠ 0
    · rw [if_pos c1] at h
      have := congrArg (fun p : GValue × Int × Int => p.2.2) h
      exact absurd this c1
    rw [if_neg c1] at h
    by_cases c2 : chkV y.1 ≠ 0
    · rw [if_pos c2] at h
      have := congrArg (fun p : GValue × Int × Int => p.2.2) h
      exact absurd this c2
    rw [if_neg c2] at h
    obtain ⟨y1, y2, y3⟩ := y
    simp only at c1 c2 h hu
    have hy3 : y3 = 0 := by omega
    subst hy3
    cases h
    have hc : chkV x = 0 := by omega
    simp only [List.length_cons] at hs
    refine ⟨hc, ?_⟩
    unfold bodyP at hb
    rw [ztk_1] at hb
    by_cases k1 : k.toNat = 1
    · rw [if_pos k1] at hb
      unfold zgo at hb
      simp only [Prod.mk.injEq] at hb
      obtain ⟨b1, b2, b3⟩ := hb
      have hlt := tk_lt t 10 0 0 rfl (by decide)
      have e0 : (tk t 10 0 0).2.2 = 0 := by omega
      obtain ⟨q1, q2⟩ := tk_bytes (l := t) (u := (tk t 10 0 0).1) (n := (tk t 10 0 0).2.1) (Prod.ext rfl (Prod.ext rfl e0))
      rw [if_pos e0] at b2
      subst b1
      refine ⟨⟨⟨zback_lo _ hlt, zback_hi _ hlt⟩, hu, by simp⟩, _, b2.symm, by simp only [List.length_cons]; omega, ?_⟩
      rw [Nat.add_comm, List.take_succ_cons, q2]
      unfold bytesV
      rw [if_pos k1, zfold_back]
    rw [if_neg k1] at hb
    by_cases k2 : k.toNat = 2
    · rw [if_pos k2] at hb
      cases t with
      | nil => simp at hb
      | cons z t =>
        simp only [List.getElem?_cons_succ, List.getElem?_cons_zero, Prod.mk.injEq] at hb
        obtain ⟨b1, b2, b3⟩ := hb
        subst b1
        have hz := UInt8.toNat_lt z
        refine ⟨⟨⟨by simp only; omega, by simp only; omega⟩, hu, by simp⟩, 2, by omega, by simp, ?_⟩
        unfold bytesV
        rw [if_neg (by simp only; omega), if_pos k2]
        have : toU8 ((z.toNat : Nat) : Int) = z := by
          apply UInt8.toNat_inj.1
          rw [toU8_nat]; omega
        rw [this]; rfl
    rw [if_neg k2] at hb
    by_cases k3 : k.toNat = 3
    · rw [if_pos k3] at hb
      rw [show List.drop 1 (k :: t) = t from rfl] at hb
      cases hw : rdW t with
      | none => rw [hw] at hb; simp at hb
      | some w =>
        rw [hw] at hb
        simp only [Prod.mk.injEq] at hb
        obtain ⟨b1, b2, b3⟩ := hb
        subst b1
        have hlt := rdW_lt hw
        unfold rdW at hw
        split at hw
        · cases hw
        · rename_i hl
          have hw := Option.some.inj hw
          refine ⟨⟨⟨by simp, by simp⟩, hu, by simp⟩, 9, by omega, by simp only [List.length_cons]; omega, ?_⟩
          unfold bytesV
          rw [if_neg (by simp only; omega), if_neg (by simp only; omega), if_pos k3, List.take_succ_cons]
          simp only [Int.toNat_natCast]
          rw [← hw, beB_beN 8 _ (by simp; omega)]
    rw [if_neg k3] at hb
    by_cases k4 : k.toNat = 4
    · rw [if_pos k4] at hb
      have hlt := tk_lt t 10 0 0 rfl (by decide)
      unfold zgo at hb
      simp only at hb
      by_cases d1 : (tk t 10 0 0).2.2 = 0
      · rw [if_neg (by simp [d1]), if_pos d1] at hb
        by_cases d2 : 24 < (tk t 10 0 0).1
        · rw [if_pos d2] at hb; simp at hb
        rw [if_neg d2] at hb
        by_cases d3 : (k :: t).length < 1 + (tk t 10 0 0).2.1 + (tk t 10 0 0).1
        · rw [if_pos d3] at hb; simp at hb
        rw [if_neg d3] at hb
        simp only [Prod.mk.injEq] at hb
        obtain ⟨b1, b2, b3⟩ := hb
        obtain ⟨q1, q2⟩ := tk_bytes (l := t) (u := (tk t 10 0 0).1) (n := (tk t 10 0 0).2.1) (Prod.ext rfl (Prod.ext rfl d1))
        generalize (tk t 10 0 0).2.1 = m at *
        generalize (tk t 10 0 0).1 = u at *
        rw [Nat.add_comm 1 m, List.drop_succ_cons] at b1
        subst b1
        simp only [List.length_cons] at d3
        have hlen : ((t.drop m).take u).length = u := by rw [List.length_take, List.length_drop]; omega
        refine ⟨⟨⟨by simp, by simp⟩, hu, by simp only [hlen]; omega⟩, _, b2.symm, by simp only [List.length_cons]; omega, ?_⟩
        unfold bytesV
        rw [if_neg (by simp only; omega), if_neg (by simp only; omega), if_neg (by simp only; omega)]
        simp only [hlen]
        rw [show 1 + m + u = (m + u) + 1 by omega, List.take_succ_cons, List.take_add, q2]
      · rw [if_pos (by simpa using d1)] at hb
        simp only [Prod.mk.injEq] at hb
        omega
    rw [if_neg k4] at hb
    simp at hb
theorem cmpI_zero {a b : Int} : cmpI a b = 0 ↔ a = b := by unfold cmpI; split <;> (try split) <;> omega
theorem rnk_inj {a b : Int} (ha : u64B a) (hb : u64B b) (h : rnkR a = rnkR b) : a = b := by
  obtain ⟨a1, a2⟩ := ha
  obtain ⟨b1, b2⟩ := hb
  unfold rnkR at h
  split at h <;> split at h <;> omega
theorem cmpS_zero {a b : List UInt8} (h : cmpS a b = 0) : a = b := by
  unfold cmpS at h
  split at h
  · omega
  · rename_i h1
    split at h
    · omega
    · rename_i h2
      unfold ltS at h1
      unfold gtS at h2
      simp only [Bool.not_eq_true] at h1 h2
      rw [h1] at h2
      simpa using h2
theorem cmpS_self (a : List UInt8) : cmpS a a = 0 := by
  unfold cmpS
  have h1 : ltS a a = false := by
    unfold ltS
    induction a with
    | nil => rfl
    | cons x l ih => simp [Op.bytesLess, ih]
  have h2 : gtS a a = false := by unfold gtS; simp
  rw [h1, h2]; rfl
theorem rk_zero {v w : GValue} (hv : okB v) (hw : okB w) (cv : chkV v = 0) (cw : chkV w = 0) : rkV v w = 0 ↔ v = w := by
  unfold rkV
  constructor
  · intro h
    by_cases hk : cmpI v.Kind.toNat w.Kind.toNat = 0
    · rw [if_neg (by simp [hk])] at h
      have hkk : v.Kind = w.Kind := UInt8.toNat_inj.1 (by have := cmpI_zero.1 hk; omega)
      obtain ⟨k, n, b, t⟩ := v
      obtain ⟨k', n', b', t'⟩ := w
      simp only at hkk
      subst hkk
      rcases chk_range ⟨k, n, b, t⟩ with k1 | k2 | k3 | k4 | hx
      · have a1 := chk1 k1 cv
        have a2 := chk1 (v := ⟨k, n', b', t'⟩) k1 cw
        simp only at a1 a2 k1
        rw [if_pos (.inl k1)] at h
        have := cmpI_zero.1 h
        simp only at this
        rw [this, a1.1, a1.2, a2.1, a2.2]
      · have a1 := chk2 k2 cv
        have a2 := chk2 (v := ⟨k, n', b', t'⟩) k2 cw
        simp only at a1 a2 k2
        rw [if_pos (.inr k2)] at h
        have := cmpI_zero.1 h
        simp only at this
        rw [this, a1.2.1, a1.2.2, a2.2.1, a2.2.2]
      · have a1 := chk3 k3 cv
        have a2 := chk3 (v := ⟨k, n', b', t'⟩) k3 cw
        have u1 := hv.B
        have u2 := hw.B
        simp only at a1 a2 k3 u1 u2
        simp only at h
        rw [if_neg (by omega), if_pos k3] at h
        rw [a1.1, a2.1] at h
        have := rnk_inj u1 u2 (cmpI_zero.1 h)
        rw [this, a1.2.1, a1.2.2, a2.2.1, a2.2.2]
      · have a1 := chk4 k4 cv
        have a2 := chk4 (v := ⟨k, n', b', t'⟩) k4 cw
        simp only at a1 a2 k4
        simp only at h
        rw [if_neg (by omega), if_neg (by omega), if_pos k4] at h
        have := cmpS_zero h
        rw [this, a1.2.1, a1.2.2, a2.2.1, a2.2.2]
      · rw [cv] at hx; cases hx
    · rw [if_pos hk] at h; exact absurd h hk
  · rintro rfl
    have hI : ∀ a, cmpI a a = 0 := fun a => cmpI_zero.2 rfl
    rw [if_neg (by simp [hI])]
    simp only [hI, cmpS_self]
    split <;> (try split) <;> (try split) <;> rfl
theorem same4 (v w : GValue) : (decide (((v.Kind.toNat : Nat) : Int) = ((w.Kind.toNat : Nat) : Int)) && (decide (v.N = w.N) && (decide (v.Bits = w.Bits) && (decide (v.Text = w.Text) && true)))) = decide (v = w) := by
  rw [Bool.eq_iff_iff]
  obtain ⟨k, n, b, t⟩ := v
  obtain ⟨k', n', b', t'⟩ := w
  simp only [Bool.and_eq_true, decide_eq_true_eq, and_true, GValue.mk.injEq]
  constructor
  · rintro ⟨h1, h2, h3, h4⟩
    exact ⟨UInt8.toNat_inj.1 (by omega), h2, h3, h4⟩
  · rintro ⟨h1, h2, h3, h4⟩
    exact ⟨by rw [h1], h2, h3, h4⟩
theorem back_j8 {v w : GValue} {s : List UInt8} (hv : okB v) (hw : okB w) (hs : s.length ≤ 100) : m_telltalelaw04_ValueBack_j8 v w s = some true := by
  unfold m_telltalelaw04_ValueBack_j8
  rw [awk04b, vput_ok (by simp) hv, obind_some, vput_ok (by simp) hw, obind_some]
  unfold putV
  by_cases cv : chkV v = 0
  · by_cases cw : chkV w = 0
    · rw [if_neg (by simp [cv]), if_neg (by simp [cw])]
      simp only
      have hl : (bytesV v).length ≤ 2000 := by
        have := hv.T
        have h1 := zn_le10 (zfold v.N) (zfold_lt _ hv.N.1 hv.N.2)
        have h2 := zn_le10 v.Text.length (by omega)
        unfold bytesV
        split
        · rw [zb_length]; omega
        · split
          · simp
          · split
            · rw [beB_len]; omega
            · rw [List.length_append, zb_length]; omega
      have hpt := put_take hv cv s
      rw [decide_eq_false (by simp), cond_false, cond_false, List.nil_append, List.nil_append, app_ok (by simp only [List.length_cons]; omega), obind_some, vtake_ok (by simp only [List.length_append, List.length_cons]; omega), obind_some, hpt, same4, same4, obind_some]
      simp only
      rw [obind_some, vrank_ok hv.B hw.B, obind_some]
      have e1 : decide (v.Kind :: bytesV v = w.Kind :: bytesV w) = decide (v = w) := by
        rw [Bool.eq_iff_iff, decide_eq_true_eq, decide_eq_true_eq]
        constructor
        · intro h
          exact (bytes_inj cv cw hv.B hw.B (r := []) (s := []) (by rw [List.append_nil, List.append_nil]; exact h)).1
        · rintro rfl; rfl
      have e2 : decide (rkV v w = 0) = decide (v = w) := by
        rw [Bool.eq_iff_iff, decide_eq_true_eq, decide_eq_true_eq]; exact rk_zero hv hw cv cw
      rw [e1, e2]
      simp [obind_some]
    · rw [if_neg (by simp [cv]), if_pos cw]
      simp only
      rw [decide_eq_false (by simp), cond_false, decide_eq_true cw]; rfl
  · rw [if_pos cv]
    simp only
    rw [decide_eq_true cv]; rfl
theorem main_ValueBack (v w : GValue) (s : List UInt8) (hv : wf_GValue v) (hw : wf_GValue w) (hs : s.length ≤ maxLen) : m_telltalelaw04_ValueBack v w s = some true := by
  unfold m_telltalelaw04_ValueBack m_telltalelaw04_ValueBack_j1 m_telltalelaw04_ValueBack_j7
  rw [awk04b, small04 hv.Text, small04 hw.Text, obind_some, obind_some]
  by_cases h1 : 100 < v.Text.length
  · rw [d_lt (by omega)]; rfl
  rw [d_nlt (by omega), cond_false, obind_some]
  by_cases h2 : 100 < w.Text.length
  · rw [d_lt (by omega)]; rfl
  rw [d_nlt (by omega), cond_false]
  by_cases h3 : 100 < s.length
  · rw [d_lt (by omega)]; rfl
  have kv : okB v := ⟨in_i64 hv.N, in_u64 hv.Bits, by omega⟩
  have kw : okB w := ⟨in_i64 hw.N, in_u64 hw.Bits, by omega⟩
  rw [d_nlt (by omega), cond_false, vtake_ok (by omega), obind_some, back_j8 kv kw (by omega)]
  generalize hx : vtk s 0 = x
  obtain ⟨x, n, e⟩ := x
  simp only
  by_cases he : e = 0
  · subst he
    obtain ⟨c, ok, m, rfl, hm, hb⟩ := take_put (by omega) hx
    rw [decide_eq_true rfl, cond_true, vput_ok (by simp) ok, obind_some]
    unfold putV
    rw [if_neg (by simp [c])]
    simp only
    have ec := cut_ok (l := s) (a := 0) (b := m) (by omega) hm
    rw [Int.natCast_zero] at ec
    rw [decide_eq_false (by simp), cond_false, d_nlt (by omega), cond_false, d_nlt (by omega), cond_false, ec, obind_some, List.nil_append, hb, List.drop_zero, Nat.sub_zero, decide_eq_false (by simp), cond_false]
  · rw [decide_eq_false he, cond_false]
end Go.Proofs.Ytgocnknbiipcfaa.K
