/- zig.Take and its document's answer. Plain. -/
import Derived.Test.YtkpfagmlohcdjaaZigK
import Derived.Test.YtkpfagmlohcdjaaPzig
namespace Go.Proofs.Ytkpfagmlohcdjaa.K
open Go.RowKit Go.Lib
set_option linter.unusedVariables false
set_option linter.unusedSimpArgs false
def ztkI (r : Nat × Nat × Nat) : Int × Int × Int := ((r.1 : Int), (r.2.1 : Int), (r.2.2 : Int))
theorem orB {a b : Nat} (ha : a < 18446744073709551616) (hb : b < 18446744073709551616) : IntKind.u64.wrap (((BitVec.ofInt 64 (a : Int) ||| BitVec.ofInt 64 (b : Int)).toNat : Nat) : Int) = ((a ||| b : Nat) : Int) := by
  rw [BitVec.toNat_or, BitVec.toNat_ofInt, BitVec.toNat_ofInt, wu64]
  have e1 : ((a : Int) % ((2 ^ 64 : Nat) : Int)).toNat = a := by omega
  have e2 : ((b : Int) % ((2 ^ 64 : Nat) : Int)).toNat = b := by omega
  rw [e1, e2]
  have := Nat.or_lt_two_pow (n := 64) ha hb
  omega
theorem or_step {u i c : Nat} (hu : u < 128 ^ i) (h : u + c % 128 * 128 ^ i < 18446744073709551616) : u ||| (c % 128 * 128 ^ i) = u + c % 128 * 128 ^ i := by
  have e : (128 : Nat) ^ i = 2 ^ (7 * i) := by rw [Nat.pow_mul]
  rw [e] at hu ⊢
  rw [Nat.or_comm, Nat.mul_comm, ← Nat.two_pow_add_eq_or_of_lt hu, Nat.add_comm]
theorem not128i (x : UInt8) : (((toU8 (((BitVec.ofInt 8 ((x.toNat : Nat) : Int) &&& ~~~ BitVec.ofInt 8 128).toNat : Nat) : Int)).toNat : Nat) : Int) = ((x.toNat % 128 : Nat) : Int) := by
  rw [not128, UInt8.toNat_ofNat']; omega
theorem pow7 (i : Nat) : (2 : Int) ^ (Int.toNat ((7 * i : Nat) : Int)) = ((128 ^ i : Nat) : Int) := by
  rw [Int.toNat_natCast, show (128 : Nat) ^ i = 2 ^ (7 * i) by rw [Nat.pow_mul], Int.natCast_pow]; rfl
theorem zgo_err {l : List UInt8} {p : Nat} {a e : Nat} : zgo l p (0, 0, e + 1) = (0, 0, e + 1) := rfl
theorem take_jmp {X : Option (Int × Int × Int)} {i c : Nat} (b : Bool) : cond b (cond (decide ((1 : Int) < (c : Int))) (some ((0 : Int), (0 : Int), (8 : Int))) (cond (decide ((0 : Int) < (i : Int))) (cond (decide ((c : Int) = 0)) (some (0, 0, 4)) X) X)) (cond (decide ((0 : Int) < (i : Int))) (cond (decide ((c : Int) = 0)) (some (0, 0, 4)) X) X) = if b = true ∧ 1 < c then some (0, 0, 8) else if 0 < i ∧ c = 0 then some (0, 0, 4) else X := by
  have e1 : decide ((1 : Int) < (c : Int)) = decide (1 < c) := decide_eq_decide.2 (by omega)
  have e2 : decide ((0 : Int) < (i : Int)) = decide (0 < i) := decide_eq_decide.2 (by omega)
  have e3 : decide ((c : Int) = 0) = decide (c = 0) := decide_eq_decide.2 (by omega)
  rw [e1, e2, e3]
  by_cases h1 : 1 < c <;> by_cases h2 : 0 < i <;> by_cases h3 : c = 0 <;> cases b <;> simp [h1, h2, h3] <;> omega
theorem rtake_jmp {X : Option (Int × Int × Int)} {i c : Nat} (b : Bool) : cond b (cond (decide ((1 : Int) < (c : Int))) (some ((0 : Int), (0 : Int), (8 : Int))) (cond (decide ((c : Int) = 0)) (cond (decide ((0 : Int) < (i : Int))) (some (0, 0, 4)) X) X)) (cond (decide ((c : Int) = 0)) (cond (decide ((0 : Int) < (i : Int))) (some (0, 0, 4)) X) X) = if b = true ∧ 1 < c then some (0, 0, 8) else if 0 < i ∧ c = 0 then some (0, 0, 4) else X := by
  have e1 : decide ((1 : Int) < (c : Int)) = decide (1 < c) := decide_eq_decide.2 (by omega)
  have e2 : decide ((0 : Int) < (i : Int)) = decide (0 < i) := decide_eq_decide.2 (by omega)
  have e3 : decide ((c : Int) = 0) = decide (c = 0) := decide_eq_decide.2 (by omega)
  rw [e1, e2, e3]
  by_cases h1 : 1 < c <;> by_cases h2 : 0 < i <;> by_cases h3 : c = 0 <;> cases b <;> simp [h1, h2, h3] <;> omega
theorem take_l {l : List UInt8} {p : Nat} (hl : l.length ≤ 1000000) (hp : p ≤ l.length) : ∀ (f fu i u : Nat), f + i = 10 → f < fu → u < 128 ^ i → m_zig_Take_l1 l (p : Int) fu (u : Int) (i : Int) = some (ztkI (zgo l p (tk (l.drop p) f i u)))
  | f, 0, _, _, _, h, _ => by omega
  | 0, fu + 1, i, u, h, _, hu => by
    unfold m_zig_Take_l1
    rw [d_nlt (by omega), cond_false]; rfl
  | f + 1, fu + 1, i, u, h, hf, hu => by
    unfold m_zig_Take_l1 m_zig_Take_j6 m_zig_Take_j8
    rw [d_lt (by omega), cond_true, w64 (n := (p : Int) + i) (by omega) (by omega), show (p : Int) + (i : Int) = ((p + i : Nat) : Int) by omega, tk, List.getElem?_drop]
    by_cases hlen : p + i < l.length
    · rw [decide_eq_false (by omega), cond_false, geti_lt hlen, obind_some, List.getElem?_eq_getElem hlen]
      have hc := UInt8.toNat_lt l[p + i]
      simp only
      rw [not128i]
      generalize l[p + i].toNat = c at hc
      rw [obind_some, w64 (n := 7 * (i : Int)) (by omega) (by omega), show 7 * (i : Int) = ((7 * i : Nat) : Int) by omega, chk_ok (by omega), pow7, w64 (n := ((p + i : Nat) : Int) + 1) (by omega) (by omega), inc_ok (by omega)]
      by_cases h9 : i = 9 ∧ 1 < c
      · rw [decide_eq_true (p := (i : Int) = 9) (by omega), cond_true, d_lt (by omega), cond_true, if_pos h9]; rfl
      · have key : m_zig_Take_l1 l (p : Int) fu (u : Int) (i : Int) = m_zig_Take_l1 l (p : Int) fu (u : Int) (i : Int) := rfl
        have hm := mul_in (c := c) hu (by omega) (by omega) (fun h => by have : ¬ 1 < c := fun h' => h9 ⟨h, h'⟩; omega)
        rw [if_neg h9]
        have hw : IntKind.u64.wrap (((c % 128 : Nat) : Int) * ((128 ^ i : Nat) : Int)) = ((c % 128 * 128 ^ i : Nat) : Int) := by
          rw [wu64, ← Int.natCast_mul]; omega
        rw [hw, orB (by omega) (by omega), or_step hu hm.1, obind_some]
        have fin : (cond (decide ((c : Int) < 128)) (some (((u + c % 128 * 128 ^ i : Nat) : Int), ((p + i : Nat) : Int) + 1, 0)) (m_zig_Take_l1 l (p : Int) fu ((u + c % 128 * 128 ^ i : Nat) : Int) ((i + 1 : Nat) : Int))) = some (ztkI (zgo l p (if c < 128 then (u + c % 128 * 128 ^ i, i + 1, 0) else tk (l.drop p) f (i + 1) (u + c % 128 * 128 ^ i)))) := by
          by_cases hc2 : c < 128
          · rw [d_lt (by omega), cond_true, if_pos hc2]
            unfold zgo ztkI
            simp only
            rw [if_pos trivial]
            congr 3
          · rw [d_nlt (by omega), cond_false, if_neg hc2, take_l hl hp f fu (i + 1) _ (by omega) (by omega) hm.2]
        rw [fin, take_jmp, if_neg (by
          intro hh
          exact h9 ⟨by have := of_decide_eq_true hh.1; omega, hh.2⟩)]
        by_cases hz : 0 < i ∧ c = 0
        · rw [if_pos hz, if_pos hz]; rfl
        · rw [if_neg hz, if_neg hz]
    · rw [decide_eq_true (by omega), cond_true, List.getElem?_eq_none (by omega)]; rfl
theorem take_ok {l : List UInt8} (hl : l.length ≤ 1000000) (a : Int) : m_zig_Take l a = some (ztkI (ztk l a)) := by
  unfold m_zig_Take ztk
  by_cases h1 : a < 0
  · rw [d_lt h1, if_pos (.inl h1)]; rfl
  · rw [d_nlt h1, cond_false]
    by_cases h2 : (l.length : Int) < a
    · rw [d_lt h2, if_pos (.inr h2)]; rfl
    · rw [d_nlt h2, cond_false, if_neg (by omega)]
      have := take_l (p := a.toNat) hl (by omega) 10 1152921504606846976 0 0 rfl (by omega) (by decide)
      rw [show ((a.toNat : Nat) : Int) = a by omega] at this
      exact this
theorem rtake_l {l : List UInt8} {p : Nat} (hl : l.length ≤ 1000000) (hp : p ≤ l.length) : ∀ (f fu i u : Nat) (m : Int), f + i = 10 → f < fu → u < 128 ^ i → (i < 10 → m = ((128 ^ i : Nat) : Int)) → m_telltaleref02_Take_l1 l (p : Int) fu (u : Int) m (i : Int) = some (ztkI (zgo l p (tk (l.drop p) f i u)))
  | f, 0, _, _, _, _, h, _, _ => by omega
  | 0, fu + 1, i, u, m, h, _, hu, _ => by
    unfold m_telltaleref02_Take_l1
    rw [d_nlt (by omega), cond_false]; rfl
  | f + 1, fu + 1, i, u, m, h, hf, hu, hm0 => by
    unfold m_telltaleref02_Take_l1 m_telltaleref02_Take_j8 m_telltaleref02_Take_j9
    have hmm := hm0 (by omega)
    rw [d_lt (by omega), cond_true, w64 (n := (l.length : Int) - p) (by omega) (by omega), w64 (n := (p : Int) + i) (by omega) (by omega), show (p : Int) + (i : Int) = ((p + i : Nat) : Int) by omega, tk, List.getElem?_drop]
    by_cases hlen : p + i < l.length
    · rw [decide_eq_false (by omega), cond_false, geti_lt hlen, obind_some, List.getElem?_eq_getElem hlen]
      have hc := UInt8.toNat_lt l[p + i]
      simp only
      generalize l[p + i].toNat = c at hc
      rw [obind_some, w64 (n := ((p + i : Nat) : Int) + 1) (by omega) (by omega), inc_ok (by omega), Int.tmod_eq_emod_of_nonneg (by omega), hmm]
      by_cases h9 : i = 9 ∧ 1 < c
      · rw [decide_eq_true (p := (i : Int) = 9) (by omega), cond_true, d_lt (by omega), cond_true, if_pos h9]; rfl
      · have hm := mul_in (c := c) hu (by omega) (by omega) (fun h => by have : ¬ 1 < c := fun h' => h9 ⟨h, h'⟩; omega)
        rw [if_neg h9]
        have hw : IntKind.u64.wrap ((u : Int) + IntKind.u64.wrap (IntKind.u64.wrap ((c : Int) % 128) * ((128 ^ i : Nat) : Int))) = ((u + c % 128 * 128 ^ i : Nat) : Int) := by
          have e : IntKind.u64.wrap ((c : Int) % 128) = ((c % 128 : Nat) : Int) := by rw [wu64]; omega
          rw [e, wu64, wu64, ← Int.natCast_mul]; omega
        rw [hw]
        have fin : (cond (decide ((c : Int) < 128)) (some (((u + c % 128 * 128 ^ i : Nat) : Int), ((p + i : Nat) : Int) + 1, 0)) (m_telltaleref02_Take_l1 l (p : Int) fu ((u + c % 128 * 128 ^ i : Nat) : Int) (IntKind.u64.wrap (((128 ^ i : Nat) : Int) * 128)) ((i + 1 : Nat) : Int))) = some (ztkI (zgo l p (if c < 128 then (u + c % 128 * 128 ^ i, i + 1, 0) else tk (l.drop p) f (i + 1) (u + c % 128 * 128 ^ i)))) := by
          by_cases hc2 : c < 128
          · rw [d_lt (by omega), cond_true, if_pos hc2]
            unfold zgo ztkI
            simp only
            rw [if_pos trivial]
            congr 3
          · rw [d_nlt (by omega), cond_false, if_neg hc2, rtake_l hl hp f fu (i + 1) _ _ (by omega) (by omega) hm.2 (fun h10 => by
              have h8 : (128 : Nat) ^ i ≤ 128 ^ 8 := Nat.pow_le_pow_right (by decide) (by omega)
              have e8 : (128 : Nat) ^ 8 = 72057594037927936 := by decide
              rw [wu64, Nat.pow_succ]; omega)]
        rw [fin, rtake_jmp, if_neg (by
          intro hh
          exact h9 ⟨by have := of_decide_eq_true hh.1; omega, hh.2⟩)]
        by_cases hz : 0 < i ∧ c = 0
        · rw [if_pos hz, if_pos hz]; rfl
        · rw [if_neg hz, if_neg hz]
    · rw [decide_eq_true (by omega), cond_true, List.getElem?_eq_none (by omega)]; rfl
theorem rtake_ok {l : List UInt8} (hl : l.length ≤ 1000000) (a : Int) : m_telltaleref02_Take l a = some (ztkI (ztk l a)) := by
  unfold m_telltaleref02_Take ztk
  by_cases h1 : a < 0
  · rw [d_lt h1, if_pos (.inl h1)]; rfl
  · rw [d_nlt h1, cond_false]
    by_cases h2 : (l.length : Int) < a
    · rw [d_lt h2, if_pos (.inr h2)]; rfl
    · rw [d_nlt h2, cond_false, if_neg (by omega)]
      have := rtake_l (p := a.toNat) hl (by omega) 10 1152921504606846976 0 0 1 rfl (by omega) (by decide) (fun _ => rfl)
      rw [show ((a.toNat : Nat) : Int) = a by omega] at this
      exact this
/-! ### unfolding -/
theorem back_ok' {u : Nat} (h : u < 18446744073709551616) : m_zig_Back (u : Int) = some (zback u) := by
  unfold m_zig_Back zback
  rw [obind_some, obind_some, Int.fdiv_eq_ediv_of_nonneg _ (by decide), show (2 : Int) ^ 1 = 2 from rfl, show (u : Int) / 2 = ((u / 2 : Nat) : Int) by omega]
  have e1 : (BitVec.ofInt 64 (u : Int) &&& BitVec.ofInt 64 1).toNat = u % 2 := by
    rw [BitVec.toNat_and, BitVec.toNat_ofInt, BitVec.toNat_ofInt]
    have : ((u : Int) % ((2 ^ 64 : Nat) : Int)).toNat = u := by omega
    rw [this]
    exact Nat.and_one_is_mod u
  rw [e1, wu64, w64 (n := ((u / 2 : Nat) : Int)) (by omega) (by omega)]
  by_cases h2 : u % 2 = 1
  · rw [if_pos h2, h2]
    rw [show IntKind.i64.wrap (0 - IntKind.i64.wrap (((1 : Nat) : Int) % 18446744073709551616)) = -1 by decide, show BitVec.ofInt 64 (-1) = BitVec.allOnes 64 by decide, BitVec.xor_allOnes, BitVec.toNat_not, BitVec.toNat_ofInt]
    have : (((u / 2 : Nat) : Int) % ((2 ^ 64 : Nat) : Int)).toNat = u / 2 := by omega
    rw [this]
    congr 1
    simp [IntKind.wrap, IntKind.signed, IntKind.bits]
    omega
  · rw [if_neg h2, show u % 2 = 0 by omega]
    rw [show IntKind.i64.wrap (0 - IntKind.i64.wrap (((0 : Nat) : Int) % 18446744073709551616)) = 0 by decide, show BitVec.ofInt 64 0 = 0#64 by decide, BitVec.xor_zero, BitVec.toNat_ofInt]
    have : (((u / 2 : Nat) : Int) % ((2 ^ 64 : Nat) : Int)).toNat = u / 2 := by omega
    rw [this, w64 (by omega) (by omega)]
theorem rback_ok {u : Nat} (h : u < 18446744073709551616) : m_telltaleref02_Back (u : Int) = some (zback u) := by
  unfold m_telltaleref02_Back zback
  have e : IntKind.u64.wrap ((u / 2 : Nat) : Int) = ((u / 2 : Nat) : Int) := by rw [wu64]; omega
  rw [Int.tmod_eq_emod_of_nonneg (by omega), Int.tdiv_eq_ediv_of_nonneg (by omega), show (u : Int) / 2 = ((u / 2 : Nat) : Int) by omega, e, w64 (n := ((u / 2 : Nat) : Int)) (by omega) (by omega)]
  by_cases h2 : u % 2 = 1
  · rw [if_pos h2, decide_eq_true (by omega), cond_true, w64 (n := 0 - ((u / 2 : Nat) : Int)) (by omega) (by omega), w64 (by omega) (by omega)]
    congr 1; omega
  · rw [if_neg h2, decide_eq_false (by omega), cond_false]
theorem takeint_ok {l : List UInt8} (hl : l.length ≤ 1000000) (a : Int) : m_zig_TakeInt l a = some (zback (ztk l a).1, (((ztk l a).2.1 : Nat) : Int), (((ztk l a).2.2 : Nat) : Int)) := by
  unfold m_zig_TakeInt
  rw [take_ok hl, obind_some]
  unfold ztkI
  simp only
  rw [back_ok' (ztk_lt l a), obind_some]
end Go.Proofs.Ytkpfagmlohcdjaa.K
