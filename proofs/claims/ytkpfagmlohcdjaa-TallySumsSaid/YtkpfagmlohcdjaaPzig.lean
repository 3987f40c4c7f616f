/- zig and its document's answer: numbers' bytes. Plain. -/
import Derived.Test.YtkpfagmlohcdjaaZigP
import Derived.Test.YtkpfagmlohcdjaaLM
import Derived.Test.YtkpfagmlohcdjaaLp
namespace Go.Proofs.Ytkpfagmlohcdjaa.K
open Go.RowKit Go.Lib
set_option linter.unusedVariables false
set_option linter.unusedSimpArgs false
theorem tbl_bind {y : Int} {l : List UInt8} {f : UInt8 → Option Int} {r : Option Int} (hl : ∀ k : Fin 256, (l[k.val]?).map (·.toNat) = some (Lib.bitLen k.val)) (h1 : 0 ≤ y) (h2 : y < 256) (hf : ∀ x : UInt8, x.toNat = Lib.bitLen y.toNat → f x = r) : Option.bind (geti l (((toU8 y).toNat : Nat) : Int)) f = r := by
  have e : (toU8 y).toNat = y.toNat := by
    unfold toU8
    rw [UInt8.toNat_ofNat']
    omega
  rw [e, geti_nat]
  have := hl ⟨y.toNat, by omega⟩
  dsimp only at this
  cases hx : l[y.toNat]? with
  | none => rw [hx] at this; cases this
  | some x => rw [hx] at this; exact hf x (by simpa using this)
theorem l64_j2 {y0 y2 : Int} (h1 : 0 ≤ y0) (h2 : y0 < 256) (h3 : 0 ≤ y2) (h4 : y2 ≤ 1000) : m_math_bits_Len64_j2 y0 y2 = some (y2 + ((Lib.bitLen y0.toNat : Nat) : Int)) := by
  unfold m_math_bits_Len64_j2
  refine tbl_bind ?_ h1 h2 fun x q => ?_
  · decide +kernel
  · have := Lib.bitLen_le8 ⟨y0.toNat, by omega⟩
    dsimp only at this
    rw [q, w64 (by omega) (by omega)]
theorem l64_j1 {y0 y2 : Int} (h1 : 0 ≤ y0) (h2 : y0 < 65536) (h3 : 0 ≤ y2) (h4 : y2 ≤ 900) : m_math_bits_Len64_j1 y0 y2 = some (y2 + ((Lib.bitLen y0.toNat : Nat) : Int)) := by
  unfold m_math_bits_Len64_j1
  by_cases h : 256 ≤ y0
  · rw [decide_eq_true h, cond_true, Int.fdiv_eq_ediv_of_nonneg _ (by decide), show (2 : Int) ^ 8 = 256 from rfl, w64 (by omega) (by omega), l64_j2 (by omega) (by omega) (by omega) (by omega)]
    have := Lib.bitLen_shift8 y0.toNat (by omega) (by omega)
    rw [show (y0 / 256).toNat = y0.toNat / 256 by omega, this]
    congr 1; omega
  · rw [decide_eq_false h, cond_false, l64_j2 h1 (by omega) h3 (by omega)]
theorem l64_j0 {y0 y2 : Int} (h1 : 0 ≤ y0) (h2 : y0 < 4294967296) (h3 : 0 ≤ y2) (h4 : y2 ≤ 800) : m_math_bits_Len64_j0 y0 y2 = some (y2 + ((Lib.bitLen y0.toNat : Nat) : Int)) := by
  unfold m_math_bits_Len64_j0
  by_cases h : 65536 ≤ y0
  · rw [decide_eq_true h, cond_true, Int.fdiv_eq_ediv_of_nonneg _ (by decide), show (2 : Int) ^ 16 = 65536 from rfl, w64 (by omega) (by omega), l64_j1 (by omega) (by omega) (by omega) (by omega)]
    have := Lib.bitLen_shift16 y0.toNat (by omega) (by omega)
    rw [show (y0 / 65536).toNat = y0.toNat / 65536 by omega, this]
    congr 1; omega
  · rw [decide_eq_false h, cond_false, l64_j1 h1 (by omega) h3 (by omega)]
theorem len64_ok {u : Nat} (h : u < 18446744073709551616) : m_math_bits_Len64 (u : Int) = some ((Lib.bitLen u : Nat) : Int) := by
  unfold m_math_bits_Len64
  by_cases hh : 4294967296 ≤ u
  · rw [decide_eq_true (by omega), cond_true, Int.fdiv_eq_ediv_of_nonneg _ (by decide), show (2 : Int) ^ 32 = 4294967296 from rfl, l64_j0 (by omega) (by omega) (by omega) (by omega)]
    have := Lib.bitLen_shift32 u (by omega) (by omega)
    rw [show ((u : Int) / 4294967296).toNat = u / 4294967296 by omega, this]
    congr 1
  · rw [decide_eq_false (by omega), cond_false, l64_j0 (by omega) (by omega) (by omega) (by omega)]
    congr 1; rw [Int.toNat_natCast]; omega
theorem bitLen_64 {u : Nat} (h : u < 18446744073709551616) : Lib.bitLen u ≤ 64 := Lib.bitLen_le u 64 (by omega) (by simpa using h)
theorem size_ok {u : Nat} (h : u < 18446744073709551616) : m_zig_Size (u : Int) = some ((zn u : Nat) : Int) := by
  unfold m_zig_Size
  have hb := bitLen_64 h
  rw [len64_ok h, obind_some, w64 (n := ((Lib.bitLen u : Nat) : Int) + 7) (by omega) (by omega), w64 (n := ((Lib.bitLen u : Nat) : Int) + 7 - 1) (by omega) (by omega), Int.tdiv_eq_ediv_of_nonneg (by omega), w64 (by omega) (by omega), ← zn_bits u h]
  congr 1; omega
theorem or128 (x : UInt8) : toU8 (((BitVec.ofInt 8 ((x.toNat : Nat) : Int) ||| BitVec.ofInt 8 128).toNat : Nat) : Int) = UInt8.ofNat (x.toNat % 128 + 128) := by
  have : ∀ k : Fin 256, toU8 (((BitVec.ofInt 8 ((k.val : Nat) : Int) ||| BitVec.ofInt 8 128).toNat : Nat) : Int) = UInt8.ofNat (k.val % 128 + 128) := by decide +kernel
  exact this ⟨x.toNat, x.toNat_lt⟩
theorem not128 (x : UInt8) : toU8 (((BitVec.ofInt 8 ((x.toNat : Nat) : Int) &&& ~~~ BitVec.ofInt 8 128).toNat : Nat) : Int) = UInt8.ofNat (x.toNat % 128) := by
  have : ∀ k : Fin 256, toU8 (((BitVec.ofInt 8 ((k.val : Nat) : Int) &&& ~~~ BitVec.ofInt 8 128).toNat : Nat) : Int) = UInt8.ofNat (k.val % 128) := by decide +kernel
  exact this ⟨x.toNat, x.toNat_lt⟩
theorem toU8_nat (n : Nat) : (toU8 (n : Int)).toNat = n % 256 := by unfold toU8; rw [UInt8.toNat_ofNat']; omega
theorem sh7 (u i : Nat) : Int.fdiv (u : Int) (2 ^ (Int.toNat (((7 * i : Nat)) : Int))) = ((u / 128 ^ i : Nat) : Int) := by
  rw [Int.toNat_natCast, Int.fdiv_eq_ediv_of_nonneg _ (Int.pow_nonneg (by decide))]
  rw [show (128 : Nat) ^ i = 2 ^ (7 * i) by rw [Nat.pow_mul]]
  rw [Int.natCast_ediv]; congr 1
theorem put_ok {b : List UInt8} {u : Nat} (hb : b.length ≤ 100000000) (h : u < 18446744073709551616) : m_zig_Put b (u : Int) = some (b ++ zb u) := by
  have hn := zn_le10 u h
  have hp := zn_pos u
  unfold m_zig_Put
  rw [size_ok h, obind_some, w64 (by omega) (by omega), show mkc 0 (((List.length b : Nat) : Int) + ((zn u : Nat) : Int)) (0 : UInt8) = some [] by
    unfold mkc; rw [if_pos ⟨by omega, by omega, by omega⟩]; rfl]
  rw [obind_some, app_ok (by simp; omega), obind_some, List.nil_append]
  have := loopG_0 (L := fun fu s i => m_zig_Put_l3 (u : Int) ((zn u : Nat) : Int) fu s i) (n := zn u) (P := fun i s o => s.length ≤ b.length + i → o = some (s ++ ((List.range (zn u)).drop i).map (zbyte u (zn u)))) (by omega)
    (fun fu s hs => by
      unfold m_zig_Put_l3
      rw [d_nlt (by omega), cond_false, List.drop_of_length_le (by simp)]; simp)
    (fun fu s i hi ih hs => by
      unfold m_zig_Put_l3 m_zig_Put_j5
      have hr : (List.range (zn u)).drop i = i :: (List.range (zn u)).drop (i + 1) := by
        rw [List.drop_eq_getElem_cons (by simpa using hi), List.getElem_range]
      rw [d_lt (by omega), cond_true, w64 (n := 7 * (i : Int)) (by omega) (by omega), show 7 * (i : Int) = ((7 * i : Nat) : Int) by omega, chk_ok (by omega), sh7, or128, obind_some, not128, w64 (n := ((zn u : Nat) : Int) - 1) (by omega) (by omega), inc_ok (by omega), app_ok (by simp; omega), obind_some, app_ok (by simp; omega), obind_some]
      dsimp only
      rw [ih _ (by simp; omega), ih _ (by simp; omega), hr, List.map_cons]
      have e1 : (toU8 ((u / 128 ^ i : Nat) : Int)).toNat % 128 = u / 128 ^ i % 128 := by rw [toU8_nat]; omega
      rw [e1]
      unfold zbyte
      by_cases hl : i + 1 = zn u
      · rw [decide_eq_true (by omega), cond_true, if_pos hl, List.append_assoc]
        have : (UInt8.ofNat (u / 128 ^ i % 128 + 128)).toNat % 128 = u / 128 ^ i % 128 := by rw [UInt8.toNat_ofNat']; omega
        rw [this]; rfl
      · rw [decide_eq_false (by omega), cond_false, if_neg hl, List.append_assoc]; rfl) b (by omega)
  rw [this]; rfl
/-! ### the document's -/
theorem sevens_l (k : Nat) : ∀ (fu v : Nat) (s : List Int), v < 18446744073709551616 → v < 128 ^ k → k < fu → s.length + k ≤ 1000 → m_telltaleref02_sevens_l1 fu (v : Int) s = some (s ++ if v = 0 then [] else (zs v).map fun (n : Nat) => (n : Int)) := by
  induction k with
  | zero =>
    intro fu v s h1 h2 h4 h3
    obtain ⟨fu, rfl⟩ : ∃ f, fu = f + 1 := ⟨fu - 1, by omega⟩
    obtain rfl : v = 0 := by simp at h2; exact h2
    unfold m_telltaleref02_sevens_l1
    rw [d_nlt (by omega), cond_false, if_pos rfl, List.append_nil]
  | succ k ih =>
    intro fu v s h1 h2 h4 h3
    obtain ⟨fu, rfl⟩ : ∃ f, fu = f + 1 := ⟨fu - 1, by omega⟩
    unfold m_telltaleref02_sevens_l1
    by_cases h0 : v = 0
    · subst h0; rw [d_nlt (by omega), cond_false, if_pos rfl, List.append_nil]
    · rw [d_lt (by omega), cond_true, Int.tmod_eq_emod_of_nonneg (by omega), w64 (by omega) (by omega), app_ok (by simp; omega), obind_some, Int.tdiv_eq_ediv_of_nonneg (by omega), wu64, Int.emod_eq_of_lt (by omega) (by omega), show (v : Int) / 128 = ((v / 128 : Nat) : Int) by omega, show (v : Int) % 128 = ((v % 128 : Nat) : Int) by omega]
      rw [ih fu (v / 128) _ (by omega) (by rw [Nat.pow_succ] at h2; exact Nat.div_lt_of_lt_mul (by rw [Nat.mul_comm]; exact h2)) (by omega) (by simp; omega), if_neg h0, List.append_assoc]
      congr 2
      by_cases hv : v < 128
      · rw [if_pos (by omega), zs_lt hv, Nat.mod_eq_of_lt hv]; rfl
      · rw [if_neg (by omega), zs_ge hv]; rfl
theorem sevens_ok {u : Nat} (h : u < 18446744073709551616) : m_telltaleref02_sevens (u : Int) = some ((zs u).map fun (n : Nat) => (n : Int)) := by
  unfold m_telltaleref02_sevens
  rw [Int.tmod_eq_emod_of_nonneg (by omega), w64 (by omega) (by omega), Int.tdiv_eq_ediv_of_nonneg (by omega), wu64, Int.emod_eq_of_lt (by omega) (by omega), show (u : Int) / 128 = ((u / 128 : Nat) : Int) by omega, show (u : Int) % 128 = ((u % 128 : Nat) : Int) by omega]
  rw [sevens_l 10 _ _ _ (by omega) (by omega) (by omega) (by simp)]
  congr 1
  by_cases hv : u < 128
  · rw [if_pos (by omega), zs_lt hv, Nat.mod_eq_of_lt hv]; rfl
  · rw [if_neg (by omega), zs_ge hv]; rfl
theorem rput_ok {b : List UInt8} {u : Nat} (hb : b.length ≤ 100000000) (h : u < 18446744073709551616) : m_telltaleref02_Put b (u : Int) = some (b ++ zb u) := by
  have hn := zn_le10 u h
  have hp := zn_pos u
  unfold m_telltaleref02_Put
  rw [app_ok (by simp; omega), obind_some, sevens_ok h, obind_some, List.nil_append]
  have hlen : ((zs u).map fun (n : Nat) => (n : Int)).length = zn u := by rw [List.length_map]; rfl
  have hget : ∀ i, (hi : i < ((zs u).map fun (n : Nat) => (n : Int)).length) → ((zs u).map fun (n : Nat) => (n : Int))[i] = ((u / 128 ^ i % 128 : Nat) : Int) := fun i hi => by
    rw [hlen] at hi
    have := zs_get u i hi
    rw [List.getElem_map]
    have h2 := List.getElem_of_getElem? this
    obtain ⟨_, h2⟩ := h2
    rw [h2]
  generalize ((zs u).map fun (n : Nat) => (n : Int)) = l at hlen hget
  have := loopG_0 (L := fun fu s i => m_telltaleref02_Put_l2 l fu s i) (n := zn u) (P := fun i s o => s.length ≤ b.length + i → o = some (s ++ ((List.range (zn u)).drop i).map (zbyte u (zn u)))) (by omega)
    (fun fu s hs => by
      unfold m_telltaleref02_Put_l2
      rw [d_nlt (by omega), cond_false, List.drop_of_length_le (by simp)]; simp)
    (fun fu s i hi ih hs => by
      unfold m_telltaleref02_Put_l2
      have hr : (List.range (zn u)).drop i = i :: (List.range (zn u)).drop (i + 1) := by
        rw [List.drop_eq_getElem_cons (by simpa using hi), List.getElem_range]
      have hil : i < l.length := by omega
      rw [d_lt (by omega), cond_true, hlen, w64 (n := ((zn u : Nat) : Int) - 1) (by omega) (by omega), geti_lt hil, obind_some, obind_some, hget i hil, w64 (n := 128 + ((u / 128 ^ i % 128 : Nat) : Int)) (by omega) (by omega), inc_ok (by omega), app_ok (by simp; omega), obind_some, app_ok (by simp; omega), obind_some, ih _ (by simp; omega), ih _ (by simp; omega), hr, List.map_cons]
      unfold zbyte
      have t1 : toU8 ((u / 128 ^ i % 128 : Nat) : Int) = UInt8.ofNat (u / 128 ^ i % 128) := by
        apply UInt8.toNat_inj.1; rw [toU8_nat, UInt8.toNat_ofNat']
      have t2 : toU8 (128 + ((u / 128 ^ i % 128 : Nat) : Int)) = UInt8.ofNat (u / 128 ^ i % 128 + 128) := by
        rw [show (128 : Int) + ((u / 128 ^ i % 128 : Nat) : Int) = ((u / 128 ^ i % 128 + 128 : Nat) : Int) by omega]
        apply UInt8.toNat_inj.1; rw [toU8_nat, UInt8.toNat_ofNat']
      rw [t1, t2]
      by_cases hl : i + 1 = zn u
      · rw [d_nlt (by omega), cond_false, if_pos hl, List.append_assoc]; rfl
      · rw [d_lt (by omega), cond_true, if_neg hl, List.append_assoc]; rfl) b (by omega)
  rw [this]; rfl
/-! ### folding -/
theorem bnd_xor (a b : BitVec 64) : IntKind.u64.wrap (((a ^^^ b).toNat : Nat) : Int) = (((a ^^^ b).toNat : Nat) : Int) := by
  rw [wu64]; exact Int.emod_eq_of_lt (by omega) (by have := (a ^^^ b).isLt; omega)
theorem fold_ok {n : Int} (h0 : -9223372036854775808 ≤ n) (h1 : n ≤ 9223372036854775807) : m_zig_Fold n = some ((zfold n : Nat) : Int) := by
  unfold m_zig_Fold zfold
  rw [obind_some]
  have hp : (2 : Int) ^ 63 = 9223372036854775808 := rfl
  have hp1 : (2 : Int) ^ 1 = 2 := rfl
  rw [Int.fdiv_eq_ediv_of_nonneg _ (by decide), hp, hp1]
  by_cases h : n < 0
  · rw [if_pos h, show n / 9223372036854775808 = -1 by omega, show IntKind.u64.wrap (-1) = 18446744073709551615 by decide, show BitVec.ofInt 64 18446744073709551615 = BitVec.allOnes 64 by decide, BitVec.xor_allOnes, wu64, wu64]
    congr 1
    rw [BitVec.toNat_not, BitVec.toNat_ofInt, wu64]
    simp only [Nat.reducePow]
    omega
  · rw [if_neg h, show n / 9223372036854775808 = 0 by omega, show IntKind.u64.wrap 0 = 0 by decide, show BitVec.ofInt 64 0 = 0#64 by decide, BitVec.xor_zero, wu64, wu64]
    congr 1
    rw [BitVec.toNat_ofInt, wu64]
    omega
theorem rfold_ok {n : Int} (h0 : -9223372036854775808 ≤ n) (h1 : n ≤ 9223372036854775807) : m_telltaleref02_Fold n = some ((zfold n : Nat) : Int) := by
  unfold m_telltaleref02_Fold zfold
  by_cases h : n < 0
  · rw [d_lt h, cond_true, if_pos h, obind_some, w64 (n := n + 1) (by omega) (by omega), w64 (n := 0 - (n + 1)) (by omega) (by omega), wu64, wu64, wu64]
    congr 1; omega
  · rw [d_nlt h, cond_false, if_neg h, wu64, wu64]
    congr 1; omega
theorem putint_ok {b : List UInt8} {n : Int} (hb : b.length ≤ 100000000) (h0 : -9223372036854775808 ≤ n) (h1 : n ≤ 9223372036854775807) : m_zig_PutInt b n = some (b ++ zb (zfold n)) := by
  unfold m_zig_PutInt
  rw [fold_ok h0 h1, obind_some, put_ok hb (zfold_lt n h0 h1)]; rfl
end Go.Proofs.Ytkpfagmlohcdjaa.K
