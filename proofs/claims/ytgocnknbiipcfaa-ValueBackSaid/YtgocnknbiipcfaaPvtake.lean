/- What value some bytes are. Plain. -/
import Derived.Test.YtgocnknbiipcfaaPztake
import Derived.Test.YtgocnknbiipcfaaPvput
namespace Go.Proofs.Ytgocnknbiipcfaa.K
open Go.RowKit Go.Lib
set_option linter.unusedVariables false
set_option linter.unusedSimpArgs false
def beN : Nat → List UInt8 → Nat
  | a, [] => a
  | a, x :: l => beN (a * 256 + x.toNat) l
theorem or_byte {a c : Nat} (ha : a < 72057594037927936) (hc : c < 256) : IntKind.u64.wrap (((BitVec.ofInt 64 (IntKind.u64.wrap ((a : Int) * 2 ^ 8)) ||| BitVec.ofInt 64 ((c : Nat) : Int)).toNat : Nat) : Int) = ((a * 256 + c : Nat) : Int) := by
  have e : IntKind.u64.wrap ((a : Int) * 2 ^ 8) = ((2 ^ 8 * a : Nat) : Int) := by rw [wu64, show (2 : Int) ^ 8 = 256 from rfl]; omega
  rw [e, orB (by omega) (by omega), ← Nat.two_pow_add_eq_or_of_lt (i := 8) (by omega)]
  congr 1; omega
theorem pow256 {i : Nat} (h : i ≤ 7) : (256 : Nat) ^ i ≤ 72057594037927936 := by
  have := Nat.pow_le_pow_right (n := 256) (by decide) h
  have e : (256 : Nat) ^ 7 = 72057594037927936 := by decide
  omega
theorem word_l {g : GReader} {n : Int} {s : List UInt8} (hs : s.length ≤ 8) (h0 : 0 ≤ g.At ∧ g.At ≤ 1000) (hn : 0 ≤ n ∧ n ≤ 1000) : m_octet_Reader_take_l4 g n s 1152921504606846976 0 0 = some (GReader.mk g.Text (g.At + n) g.E, ((beN 0 s : Nat) : Int)) := by
  have := loopG_0 (L := fun fu (u : Nat) i => m_octet_Reader_take_l4 g n s fu (u : Int) i) (n := s.length) (P := fun i u o => u < 256 ^ i → o = some (GReader.mk g.Text (g.At + n) g.E, ((beN u (s.drop i) : Nat) : Int))) (by omega)
    (fun fu u hu => by
      unfold m_octet_Reader_take_l4
      rw [d_nlt (by omega), cond_false, List.drop_of_length_le (Nat.le_refl _), w64 (by omega) (by omega)]; rfl)
    (fun fu u i hi ih hu => by
      unfold m_octet_Reader_take_l4
      have hc := UInt8.toNat_lt s[i]
      have hp := pow256 (show i ≤ 7 by omega)
      have := ih (u * 256 + s[i].toNat) (by rw [Nat.pow_succ]; omega)
      rw [d_lt (by omega), cond_true, geti_lt hi, obind_some, or_byte (by omega) (by omega), obind_some, inc_ok (by omega), this, drop_cons hi]; rfl) 0 (by decide)
  exact this
def rdW (s : List UInt8) : Option Nat := if s.length < 8 then none else some (beN 0 (s.take 8))
def rdG (s : List UInt8) : GReader × Int := match rdW s with
  | none => (GReader.mk s 0 3, 0)
  | some w => (GReader.mk s 8 0, (w : Int))
theorem pword_ok {s : List UInt8} (hs : s.length ≤ 1000000) : m_octet_Reader_Word (GReader.mk s 0 0) = some (rdG s) := by
  unfold m_octet_Reader_Word m_octet_Reader_take m_octet_Reader_Left m_octet_Reader_fail rdG rdW
  simp only
  rw [decide_eq_false (by decide), cond_false, d_nlt (by decide), cond_false, d_nlt (by omega), cond_false, w64 (by omega) (by omega), obind_some, Int.sub_zero]
  by_cases h : s.length < 8
  · rw [d_lt (by omega), cond_true, if_pos h]; rfl
  · have e := cut_ok (l := s) (a := 0) (b := 8) (by omega) (by omega)
    rw [Int.natCast_zero] at e
    rw [d_nlt (by omega), cond_false, if_neg h, show IntKind.i64.wrap (0 + 8) = ((8 : Nat) : Int) by decide, e, obind_some, List.drop_zero, Nat.sub_zero, chk_ok (by simp; omega), word_l (g := GReader.mk s 0 0) (n := 8) (by simp; omega) (by simp) (by decide)]
    rfl
theorem rword_rd {s : List UInt8} (hs : s.length ≤ 1000000) : m_telltaleref01_RWord (GReader.mk s 0 0) = some (rdG s) := by
  unfold m_telltaleref01_RWord m_telltaleref01_rest rdG rdW
  simp only
  have e := cut_ok (l := s) (a := 0) (b := s.length) (by omega) (Nat.le_refl _)
  rw [Int.natCast_zero] at e
  rw [d_nlt (by decide), cond_false, d_nlt (by omega), cond_false, e, obind_some, List.drop_zero, Nat.sub_zero, List.take_of_length_le (Nat.le_refl _), obind_some, decide_eq_false (by decide), cond_false]
  by_cases h : s.length < 8
  · rw [d_lt (by omega), cond_true, if_pos h]
  · rw [d_nlt (by omega), cond_false, if_neg h]
    have := loopG_0 (L := fun fu (u : Nat) i => m_telltaleref01_RWord_l2 (GReader.mk s 0 0) s fu (u : Int) i) (n := 8) (P := fun i u o => u < 256 ^ i → o = some (GReader.mk s 8 0, ((beN u ((s.take 8).drop i) : Nat) : Int))) (by omega)
      (fun fu u hu => by
        unfold m_telltaleref01_RWord_l2
        rw [d_nlt (by omega), cond_false, List.drop_of_length_le (by simp; omega)]; rfl)
      (fun fu u i hi ih hu => by
        unfold m_telltaleref01_RWord_l2
        have hil : i < s.length := by omega
        have hc := UInt8.toNat_lt s[i]
        have hp := pow256 (show i ≤ 7 by omega)
        have := ih (u * 256 + s[i].toNat) (by rw [Nat.pow_succ]; omega)
        have hw : IntKind.u64.wrap (IntKind.u64.wrap ((u : Int) * 256) + ((s[i].toNat : Nat) : Int)) = ((u * 256 + s[i].toNat : Nat) : Int) := by rw [wu64, wu64]; omega
        have ht : (s.take 8).drop i = s[i] :: (s.take 8).drop (i + 1) := by
          have hi2 : i < (s.take 8).length := by simp; omega
          rw [List.drop_eq_getElem_cons hi2, List.getElem_take]
        rw [d_lt (by omega), cond_true, geti_lt hil, obind_some, hw, inc_ok (by omega), this, ht]; rfl) 0 (by decide)
    exact this
theorem beN_lt : ∀ (l : List UInt8) (a k : Nat), a < 256 ^ k → beN a l < 256 ^ (k + l.length)
  | [], a, k, h => h
  | x :: l, a, k, h => by
    have hc := UInt8.toNat_lt x
    have := beN_lt l (a * 256 + x.toNat) (k + 1) (by rw [Nat.pow_succ]; omega)
    rw [show k + (x :: l).length = k + 1 + l.length by simp; omega]
    exact this
theorem rdW_lt {s : List UInt8} {w : Nat} (h : rdW s = some w) : w < 18446744073709551616 := by
  unfold rdW at h
  split at h
  · cases h
  · rename_i hl
    have := beN_lt (s.take 8) 0 0 (by decide)
    rw [show 0 + (s.take 8).length = 8 by simp; omega] at this
    cases h
    exact this
def zeroV : GValue := GValue.mk 0 0 0 []
/-- The body behind the kind, from place a on. -/
def bodyP (k : UInt8) (l : List UInt8) (a : Nat) : GValue × Int × Int :=
  if k.toNat = 1 then (GValue.mk k (zback (ztk l a).1) 0 [], (((ztk l a).2.1 : Nat) : Int), (((ztk l a).2.2 : Nat) : Int))
  else if k.toNat = 2 then (match l[a]? with | none => (GValue.mk k 0 0 [], 0, 3) | some x => (GValue.mk k ((x.toNat : Nat) : Int) 0 [], (a : Int) + 1, 0))
  else if k.toNat = 3 then (match rdW (l.drop a) with | none => (GValue.mk k 0 0 [], (a : Int), 3) | some w => (GValue.mk k 0 (w : Int) [], (a : Int) + 8, 0))
  else if k.toNat = 4 then (if (ztk l a).2.2 ≠ 0 then (GValue.mk k 0 0 [], 0, (((ztk l a).2.2 : Nat) : Int)) else if 24 < (ztk l a).1 then (GValue.mk k 0 0 [], 0, 5) else if l.length < (ztk l a).2.1 + (ztk l a).1 then (GValue.mk k 0 0 [], 0, 3) else (GValue.mk k 0 0 ((l.drop (ztk l a).2.1).take (ztk l a).1), (((ztk l a).2.1 + (ztk l a).1 : Nat) : Int), 0))
  else (GValue.mk k 0 0 [], 0, 11)
theorem tk_place (l : List UInt8) : ∀ (f i u : Nat), (tk l f i u).2.2 = 0 → (tk l f i u).2.1 ≤ l.length
  | 0, _, _, h => by simp [tk] at h
  | f + 1, i, u, h => by
    rw [tk] at h ⊢
    cases hl : l[i]? with
    | none => simp
    | some c =>
      rw [hl] at h
      simp only at h ⊢
      have hi := (List.getElem?_eq_some_iff.1 hl).1
      split
      · simp
      · split
        · simp
        · split
          · simp only; omega
          · rw [if_neg ‹_›, if_neg ‹_›, if_neg ‹_›] at h
            exact tk_place l f _ _ h
theorem ztk_place {l : List UInt8} {a : Nat} (ha : a ≤ l.length) : (ztk l a).2.1 ≤ l.length := by
  unfold ztk
  rw [if_neg (by omega)]
  simp only
  split
  · rename_i h
    have := tk_place _ _ _ _ h
    rw [List.length_drop] at this
    rw [Int.toNat_natCast] at *
    omega
  · omega
theorem body_ok {k : UInt8} {l : List UInt8} {a : Nat} (hl : l.length ≤ 1000000) (ha : a ≤ l.length) : m_value_body k l (a : Int) = some (bodyP k l a) := by
  have hpl := ztk_place (l := l) ha
  unfold m_value_body bodyP
  by_cases k1 : k.toNat = 1
  · rw [decide_eq_true (by omega), cond_true, if_pos k1, takeint_ok hl, obind_some]
  rw [decide_eq_false (by omega), cond_false, if_neg k1]
  by_cases k2 : k.toNat = 2
  · rw [decide_eq_true (by omega), cond_true, if_pos k2]
    by_cases h : a < l.length
    · rw [decide_eq_false (by omega), cond_false, geti_lt h, obind_some, List.getElem?_eq_getElem h, w64 (by omega) (by omega)]
    · rw [decide_eq_true (by omega), cond_true, List.getElem?_eq_none (by omega)]
  rw [decide_eq_false (by omega), cond_false, if_neg k2]
  by_cases k3 : k.toNat = 3
  · rw [decide_eq_true (by omega), cond_true, if_pos k3, cut_ok ha (Nat.le_refl _), obind_some, List.take_of_length_le (by simp)]
    unfold m_octet_Open
    rw [obind_some, pword_ok (by simp; omega), obind_some]
    unfold rdG
    cases rdW (l.drop a) with
    | none => simp only; rw [w64 (by omega) (by omega), Int.add_zero]
    | some w => simp only; rw [w64 (by omega) (by omega)]
  rw [decide_eq_false (by omega), cond_false, if_neg k3]
  by_cases k4 : k.toNat = 4
  · rw [decide_eq_true (by omega), cond_true, if_pos k4, take_ok hl, obind_some]
    unfold ztkI
    simp only
    by_cases c1 : (ztk l a).2.2 = 0
    · rw [decide_eq_false (by omega), cond_false, if_neg (by omega)]
      by_cases c2 : 24 < (ztk l a).1
      · rw [d_lt (by omega), cond_true, if_pos c2]
      · rw [d_nlt (by omega), cond_false, if_neg c2, w64 (n := (((ztk l a).1 : Nat) : Int)) (by omega) (by omega), w64 (n := ((l.length : Nat) : Int) - (((ztk l a).2.1 : Nat) : Int)) (by omega) (by omega)]
        by_cases c3 : l.length < (ztk l a).2.1 + (ztk l a).1
        · rw [d_lt (by omega), cond_true, if_pos c3]
        · rw [d_nlt (by omega), cond_false, if_neg c3, w64 (n := (((ztk l a).2.1 : Nat) : Int) + (((ztk l a).1 : Nat) : Int)) (by omega) (by omega), show (((ztk l a).2.1 : Nat) : Int) + (((ztk l a).1 : Nat) : Int) = (((ztk l a).2.1 + (ztk l a).1 : Nat) : Int) by omega, cut_ok (by omega) (by omega), obind_some, Nat.add_sub_cancel_left]
    · rw [decide_eq_true (by omega), cond_true, if_pos c1]
  · rw [decide_eq_false (by omega), cond_false, if_neg k4]
theorem body_u {k : UInt8} {l : List UInt8} {a : Nat} : u64B (bodyP k l a).1.Bits := by
  unfold bodyP
  split
  · exact ⟨by simp, by simp⟩
  · split
    · split <;> exact ⟨by simp, by simp⟩
    · split
      · split
        · exact ⟨by simp, by simp⟩
        · rename_i w h
          have := rdW_lt h
          exact ⟨by simp only; omega, by simp only; omega⟩
      · split
        · split
          · exact ⟨by simp, by simp⟩
          · split
            · exact ⟨by simp, by simp⟩
            · split <;> exact ⟨by simp, by simp⟩
        · exact ⟨by simp, by simp⟩
def endV (r : GValue × Int × Int) : GValue × Int × Int := if r.2.2 ≠ 0 then (zeroV, 0, r.2.2) else if chkV r.1 ≠ 0 then (zeroV, 0, chkV r.1) else (r.1, r.2.1, 0)
def vtk (l : List UInt8) (a : Int) : GValue × Int × Int :=
  if a < 0 ∨ (l.length : Int) < a then (zeroV, 0, 2) else match l[a.toNat]? with
    | none => (zeroV, 0, 3)
    | some k => endV (bodyP k l (a.toNat + 1))
theorem vtake_ok {l : List UInt8} (hl : l.length ≤ 1000000) (a : Int) : m_value_Take l a = some (vtk l a) := by
  unfold m_value_Take vtk
  by_cases h1 : a < 0
  · rw [d_lt h1, if_pos (.inl h1)]; rfl
  rw [d_nlt h1, cond_false]
  by_cases h2 : (l.length : Int) < a
  · rw [d_lt h2, if_pos (.inr h2)]; rfl
  rw [d_nlt h2, cond_false, if_neg (by omega)]
  obtain ⟨n, rfl⟩ : ∃ n : Nat, a = n := ⟨a.toNat, by omega⟩
  rw [Int.toNat_natCast]
  by_cases h3 : n < l.length
  · rw [decide_eq_false (by omega), cond_false, geti_lt h3, obind_some, List.getElem?_eq_getElem h3, inc_ok (by omega), body_ok hl (by omega), obind_some, check_ok body_u, obind_some]
    show _ = some (endV (bodyP l[n] l (n + 1)))
    unfold m_value_Take_j4 endV
    by_cases c1 : (bodyP l[n] l (n + 1)).2.2 = 0
    · rw [decide_eq_true c1, cond_true, if_neg (by simp [c1])]
      by_cases c2 : chkV (bodyP l[n] l (n + 1)).1 = 0
      · rw [decide_eq_false (by simp [c2]), cond_false, if_neg (by simp [c2])]
      · rw [decide_eq_true c2, cond_true, if_pos c2]; rfl
    · rw [decide_eq_false c1, cond_false, decide_eq_true c1, cond_true, if_pos c1]; rfl
  · rw [decide_eq_true (by omega), cond_true, List.getElem?_eq_none (by omega)]; rfl
theorem end_ok {v : GValue} {n : Int} (h : u64B v.Bits) : m_telltaleref04_Take_j12 v n = some (endV (v, n, 0)) := by
  unfold m_telltaleref04_Take_j12 endV
  rw [rcheck_ok h, obind_some, if_neg (by simp)]
  by_cases c : chkV v = 0
  · rw [decide_eq_false (by simp [c]), cond_false, if_neg (by simp [c])]
  · rw [decide_eq_true c, cond_true, if_pos c]; rfl
theorem end_err {v : GValue} {n e : Int} (h : e ≠ 0) : endV (v, n, e) = (GValue.mk 0 0 0 [], 0, e) := by
  unfold endV; rw [if_pos h]; rfl
theorem rvtake_ok {l : List UInt8} (hl : l.length ≤ 1000000) (a : Int) : m_telltaleref04_Take l a = some (vtk l a) := by
  unfold m_telltaleref04_Take vtk
  by_cases h1 : a < 0
  · rw [d_lt h1, if_pos (.inl h1)]; rfl
  rw [d_nlt h1, cond_false]
  by_cases h2 : (l.length : Int) < a
  · rw [d_lt h2, if_pos (.inr h2)]; rfl
  rw [d_nlt h2, cond_false, if_neg (by omega)]
  obtain ⟨n, rfl⟩ : ∃ n : Nat, a = n := ⟨a.toNat, by omega⟩
  rw [Int.toNat_natCast]
  by_cases h3 : n < l.length
  · rw [decide_eq_false (by omega), cond_false, geti_lt h3, obind_some, List.getElem?_eq_getElem h3, inc_ok (by omega)]
    show _ = some (endV (bodyP l[n] l (n + 1)))
    have hpl := ztk_place (l := l) (a := n + 1) (by omega)
    generalize l[n] = k
    unfold bodyP
    have z0 : u64B 0 := ⟨by decide, by decide⟩
    by_cases q1 : k.toNat < 1
    · rw [d_lt (by omega), cond_true, if_neg (by omega), if_neg (by omega), if_neg (by omega), if_neg (by omega), end_err (by decide)]
    rw [d_nlt (by omega), cond_false]
    by_cases q2 : 4 < k.toNat
    · rw [d_lt (by omega), cond_true, if_neg (by omega), if_neg (by omega), if_neg (by omega), if_neg (by omega), end_err (by decide)]
    rw [d_nlt (by omega), cond_false]
    by_cases k2 : k.toNat = 2
    · rw [decide_eq_true (by omega), cond_true, if_neg (by omega), if_pos k2]
      by_cases h : n + 1 < l.length
      · rw [decide_eq_false (by omega), cond_false, geti_lt h, obind_some, List.getElem?_eq_getElem h, inc_ok (by omega), end_ok (by exact z0)]
        simp only
        rw [show ((n + 1 : Nat) : Int) + 1 = ((n + 1 + 1 : Nat) : Int) by omega]
      · rw [decide_eq_true (by omega), cond_true, List.getElem?_eq_none (by omega)]
        simp only
        rw [end_err (by decide)]
    rw [decide_eq_false (by omega), cond_false]
    by_cases k3 : k.toNat = 3
    · rw [decide_eq_true (by omega), cond_true, if_neg (by omega), if_neg k2, if_pos k3, cut_ok (by omega) (Nat.le_refl _), obind_some, List.take_of_length_le (by simp)]
      unfold m_telltaleref01_Open
      rw [obind_some, rword_rd (by simp; omega), obind_some]
      unfold rdG
      cases hr : rdW (l.drop (n + 1)) with
      | none => simp only; rw [decide_eq_true (by decide), cond_true, end_err (by decide)]
      | some w =>
        have := rdW_lt hr
        simp only
        rw [decide_eq_false (by decide), cond_false, end_ok ⟨by simp only; omega, by simp only; omega⟩, w64 (by omega) (by omega)]
    rw [decide_eq_false (by omega), cond_false, rtake_ok hl, obind_some]
    unfold ztkI
    simp only
    generalize hz : ztk l ((n + 1 : Nat) : Int) = z at hpl
    by_cases c1 : z.2.2 = 0
    · rw [decide_eq_false (by omega), cond_false]
      by_cases k1 : k.toNat = 1
      · have hlt := ztk_lt l ((n + 1 : Nat) : Int)
        rw [hz] at hlt
        rw [decide_eq_true (by omega), cond_true, if_pos k1, rback_ok hlt, obind_some, end_ok (by exact z0), c1]; rfl
      · rw [decide_eq_false (by omega), cond_false, if_neg k1, if_neg k2, if_neg k3, if_pos (show k.toNat = 4 by omega), if_neg (by omega)]
        by_cases c2 : 24 < z.1
        · rw [d_lt (by omega), cond_true, if_pos c2, end_err (by decide)]
        · rw [d_nlt (by omega), cond_false, if_neg c2, w64 (n := ((z.1 : Nat) : Int)) (by omega) (by omega), w64 (n := ((l.length : Nat) : Int) - ((z.2.1 : Nat) : Int)) (by omega) (by omega)]
          by_cases c3 : l.length < z.2.1 + z.1
          · rw [d_lt (by omega), cond_true, if_pos c3, end_err (by decide)]
          · rw [d_nlt (by omega), cond_false, if_neg c3, w64 (n := ((z.2.1 : Nat) : Int) + ((z.1 : Nat) : Int)) (by omega) (by omega), show ((z.2.1 : Nat) : Int) + ((z.1 : Nat) : Int) = ((z.2.1 + z.1 : Nat) : Int) by omega, cut_ok (by omega) (by omega), obind_some, Nat.add_sub_cancel_left, end_ok (by exact z0)]
    · rw [decide_eq_true (by omega), cond_true]
      by_cases k1 : k.toNat = 1
      · rw [if_pos k1, end_err (by omega)]
      · rw [if_neg k1, if_neg k2, if_neg k3, if_pos (show k.toNat = 4 by omega), if_pos c1, end_err (by omega)]
  · rw [decide_eq_true (by omega), cond_true, List.getElem?_eq_none (by omega)]; rfl
end Go.Proofs.Ytgocnknbiipcfaa.K
