/- OctetBack: plain -/
import Derived.Test.YtfklpnaklhcobaaOL
namespace Go.Proofs.Ytfklpnaklhcobaa.K
open Go.RowKit Go.Lib
set_option linter.unusedVariables false

def u64E (n : Nat) : List D := [.lit (.int .u64 ((n : Nat) : Int))]
theorem u64E_len (n : Nat) : (u64E n).length = 1 := rfl
def row14 (x : Nat) : List UInt8 := beb 6 (x % 281474976710656) ++ beb 8 x
def lay14 (l : List Nat) : List UInt8 := l.flatMap row14
theorem lay14_length (l : List Nat) : (lay14 l).length = 14 * l.length := by
  induction l with
  | nil => rfl
  | cons x l ih => simp only [lay14, List.flatMap_cons, List.length_append] at *; rw [ih]; simp [row14, beb_length]; omega
theorem lay14_app (l r : List Nat) : lay14 (l ++ r) = lay14 l ++ lay14 r := List.flatMap_append
theorem getD_lt {l : List Nat} {B i : Nat} (h : ∀ x ∈ l, x < B) (hB : 0 < B) : l.getD i 0 < B := by
  rw [List.getD_eq_getElem?_getD]
  cases hi : l[i]? with
  | none => exact hB
  | some x => exact h x (List.mem_of_getElem? hi)
theorem take_getD {l : List Nat} {i : Nat} (h : i < l.length) : l.take (i + 1) = l.take i ++ [l.getD i 0] := by
  rw [List.take_add_one, List.getElem?_eq_getElem h, List.getD_eq_getElem?_getD, List.getElem?_eq_getElem h]; rfl
theorem lay14_step {l : List Nat} {i : Nat} (h : i < l.length) : lay14 (l.take (i + 1)) = numL (lay14 (l.take i)) 6 ((l.getD i 0 % 281474976710656 : Nat) : Int) ++ beb 8 (l.getD i 0) := by
  rw [take_getD h, lay14_app, (num6 (Nat.mod_lt _ (by decide))).1, List.append_assoc]
  simp [lay14, row14]
theorem cut_of {t : ByteArray} {p q r : List UInt8} (h : t.data.toList = p ++ (q ++ r)) : p.length + q.length ≤ t.size ∧ cutL t p.length q.length = q := by
  have hs : t.size = (p ++ (q ++ r)).length := by rw [← h]; rfl
  refine ⟨by rw [hs]; simp, ?_⟩
  unfold cutL
  rw [ByteArray.data_extract, Array.toList_extract, h, List.extract_eq_take_drop, List.drop_left' rfl, Nat.add_sub_cancel_left, List.take_left' rfl]
theorem take_of {t : ByteArray} {p q r : List UInt8} {n v : Nat} (h : t.data.toList = p ++ (q ++ r)) (hq : q = beb n v) (hn : 1 ≤ n) {a : Int} (ha : a = p.length) : takeA t a 0 n = a + n ∧ takeE t a 0 n = 0 ∧ takeV t a 0 n = v % 256 ^ n := by
  subst ha
  obtain ⟨h1, h2⟩ := cut_of h
  have hl : q.length = n := by rw [hq, beb_length]
  rw [hl] at h1 h2
  obtain ⟨k1, k2, k3⟩ := take_good h1
  refine ⟨by rw [k1]; omega, k2, ?_⟩
  rw [k3, h2, hq, ben_beb]
theorem part_bytes {L : List UInt8} {a n : Nat} (h : a + n ≤ L.length) : (A.d (.sl (a + n - a) (((bytesD L).drop (0 + a * 1)).take ((a + n - a) * 1)))) = .d (.sl ((L.drop a).take n).length (bytesD ((L.drop a).take n))) := by
  rw [Nat.add_sub_cancel_left, Nat.zero_add, Nat.mul_one, Nat.mul_one, List.length_take, List.length_drop, Nat.min_eq_left (by omega)]
  simp [bytesD, List.map_take, List.map_drop]
theorem split14 {l : List Nat} {j : Nat} (h : j < l.length) : lay14 l = lay14 (l.take j) ++ (beb 6 (l.getD j 0 % 281474976710656) ++ (beb 8 (l.getD j 0) ++ lay14 (l.drop (j + 1)))) := by
  have e : l = l.take j ++ ([l.getD j 0] ++ l.drop (j + 1)) := by
    rw [← List.append_assoc, ← take_getD h, List.take_append_drop]
  have := congrArg lay14 e
  rw [lay14_app, lay14_app] at this
  rw [this]
  congr 1
theorem back_step {t : ByteArray} {l : List Nat} {r : List UInt8} (ht : t.data.toList = lay14 l ++ r) (h64 : ∀ x ∈ l, x < 18446744073709551616) {j : Nat} (hj : j < l.length) :
    numA t ((14 * j : Nat) : Int) 0 6 = ((14 * j + 6 : Nat) : Int) ∧ rnE t ((14 * j : Nat) : Int) 0 6 = 0 ∧ numV t ((14 * j : Nat) : Int) 0 6 = l.getD j 0 % 281474976710656 ∧ takeA t ((14 * j + 6 : Nat) : Int) 0 8 = ((14 * (j + 1) : Nat) : Int) ∧ takeE t ((14 * j + 6 : Nat) : Int) 0 8 = 0 ∧ takeV t ((14 * j + 6 : Nat) : Int) 0 8 = l.getD j 0 ∧ leftI t ((14 * (j + 1) : Nat) : Int) = ((t.size : Nat) : Int) - ((14 * (j + 1) : Nat) : Int) := by
  have hp : (lay14 (l.take j)).length = 14 * j := by rw [lay14_length, List.length_take]; omega
  have hx := getD_lt (i := j) h64 (by decide)
  rw [split14 hj] at ht
  have h1 := take_of (n := 6) (v := l.getD j 0 % 281474976710656) (p := lay14 (l.take j)) (q := beb 6 (l.getD j 0 % 281474976710656)) (r := beb 8 (l.getD j 0) ++ lay14 (l.drop (j + 1)) ++ r) (by rw [ht]; simp) rfl (by decide) (a := ((14 * j : Nat) : Int)) (by rw [hp])
  have h2 := take_of (n := 8) (v := l.getD j 0) (p := lay14 (l.take j) ++ beb 6 (l.getD j 0 % 281474976710656)) (q := beb 8 (l.getD j 0)) (r := lay14 (l.drop (j + 1)) ++ r) (by rw [ht]; simp) rfl (by decide) (a := ((14 * j + 6 : Nat) : Int)) (by rw [List.length_append, hp, beb_length])
  have hs : 14 * (j + 1) ≤ t.size := by
    have : t.size = t.data.toList.length := rfl
    rw [this, ht]; simp [hp, beb_length]; omega
  refine ⟨?_, ?_, ?_, ?_, h2.2.1, ?_, if_neg (by omega)⟩
  · rw [numA, if_neg (by omega)]; rw [show (6 : Int).toNat = 6 from rfl, h1.1]; omega
  · rw [rnE, if_neg (by omega)]; exact h1.2.1
  · rw [numV, if_neg (by omega)]; rw [show (6 : Int).toNat = 6 from rfl, h1.2.2]; exact Nat.mod_mod _ _
  · rw [h2.1]; omega
  · rw [h2.2.2]; exact Nat.mod_eq_of_lt hx
theorem str_back {t s : ByteArray} {p : List UInt8} (h : t.data.toList = p ++ (beb 2 s.size ++ s.data.toList)) (hs : s.size ≤ 65535) {a : Int} (ha : a = p.length) : strS t a 0 = s ∧ endE t (strA t a 0) (strE t a 0) = 0 := by
  obtain ⟨k1, k2, k3⟩ := take_of h rfl (by decide) ha
  have hv : takeV t a 0 2 = s.size := by rw [k3]; exact Nat.mod_eq_of_lt (by omega)
  have hts : t.size = p.length + 2 + s.size := by
    have : t.size = t.data.toList.length := rfl
    rw [this, h]; simp [beb_length, size_list]; omega
  have hA : takeA t a 0 2 = ((p.length + 2 : Nat) : Int) := by rw [k1, ha]; omega
  have hl : leftI t (takeA t a 0 2) = s.size := by rw [hA]; unfold leftI; rw [if_neg (by omega)]; omega
  have hn : ¬ (takeE t a 0 2 ≠ 0 ∨ leftI t (takeA t a 0 2) < takeV t a 0 2) := by rw [k2, hl, hv]; omega
  have hn2 : ¬ leftI t (takeA t a 0 2) < takeV t a 0 2 := fun hh => hn (.inr hh)
  refine ⟨?_, ?_⟩
  · rw [strS, if_neg hn, hA, hv, Int.toNat_natCast]
    ext1
    rw [ByteArray.data_extract]
    apply Array.ext'
    rw [Array.toList_extract, h, List.extract_eq_take_drop, ← List.append_assoc, List.drop_left' (by simp [beb_length]), Nat.add_sub_cancel_left]
    exact List.take_of_length_le (Nat.le_refl _)
  · rw [strA, strE, if_neg hn, k2, if_neg (by simp), if_neg hn2, hA, hv, endE, if_neg (by simp), if_neg]
    have : leftI t (((p.length + 2 : Nat) : Int) + (s.size : Int)) = 0 := by unfold leftI; rw [if_neg (by omega)]; omega
    omega
theorem str_short {t s : ByteArray} (h : t.data.toList = (beb 2 s.size ++ s.data.toList).take (s.size + 1)) (hs : s.size ≤ 65535) : strE t 0 0 = 3 := by
  have hts : t.size = s.size + 1 := by
    have : t.size = t.data.toList.length := rfl
    rw [this, h]; simp [beb_length, size_list]; omega
  by_cases h0 : s.size = 0
  · have hb := take_bad (t := t) (a := 0) (e := 0) (n := 2) (.inr (by unfold leftI; split <;> omega))
    rw [strE, hb.2.1]; rfl
  · have ht : t.data.toList = [] ++ (beb 2 s.size ++ s.data.toList.take (s.size - 1)) := by
      rw [h, List.take_append, List.take_of_length_le (by simp [beb_length]; omega), beb_length, show s.size + 1 - 2 = s.size - 1 by omega]; rfl
    obtain ⟨k1, k2, k3⟩ := take_of ht rfl (by decide) (a := 0) rfl
    have hv : takeV t 0 0 2 = s.size := by rw [k3]; exact Nat.mod_eq_of_lt (by omega)
    rw [strE, k2, if_neg (by simp), if_pos]
    rw [k1, hv]
    unfold leftI
    split <;> omega
end Go.Proofs.Ytfklpnaklhcobaa.K
