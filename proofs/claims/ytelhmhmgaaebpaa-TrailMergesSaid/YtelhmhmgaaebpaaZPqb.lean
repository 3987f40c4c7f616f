/- The library's sort at uint32: scans, partitions, reverse. -/
import Derived.Test.YtelhmhmgaaebpaaZA1
import Derived.Test.YtelhmhmgaaebpaaZLM
set_option linter.unusedVariables false
set_option linter.unusedSimpArgs false
namespace Go.Proofs.Ytelhmhmgaaebpaa.K
open Go.RowKit Go.Lib Go.Sort
theorem scanUp_loop {R : Type} {L : Nat → Int → Option R} {K : Int → Option R} {p : Int → Bool} {d : AI} {j : Nat}
    (hstep : ∀ fu i : Nat, i ≤ j → L (fu + 1) (i : Int) = if p d[i]! then L fu ((i + 1 : Nat) : Int) else K (i : Int))
    (hend : ∀ fu i : Nat, j < i → L (fu + 1) (i : Int) = K (i : Int)) : ∀ n i fu : Nat, j + 1 - i = n → n < fu → L fu (i : Int) = K ((scanUp p d j i : Nat) : Int)
  | 0, i, fu, hn, hf => by
    obtain ⟨fu, rfl⟩ : ∃ k, fu = k + 1 := ⟨fu - 1, by omega⟩
    unfold scanUp
    rw [hend fu i (by omega), decide_eq_false (by omega)]; rfl
  | n + 1, i, fu, hn, hf => by
    obtain ⟨fu, rfl⟩ : ∃ k, fu = k + 1 := ⟨fu - 1, by omega⟩
    unfold scanUp
    rw [hstep fu i (by omega), decide_eq_true (show i ≤ j by omega), Bool.true_and]
    cases hp : p d[i]! with
    | true => rw [if_pos rfl, if_pos rfl]; exact scanUp_loop hstep hend n (i + 1) fu (by omega) (by omega)
    | false => rw [if_neg (by simp), if_neg (by simp)]
theorem scanDown_loop {R : Type} {L : Nat → Int → Option R} {K : Int → Option R} {p : Int → Bool} {d : AI} {i N : Nat} (hi : 1 ≤ i)
    (hstep : ∀ fu j : Nat, i ≤ j → j ≤ N → L (fu + 1) (j : Int) = if p d[j]! then L fu (((j - 1 : Nat)) : Int) else K (j : Int))
    (hend : ∀ fu j : Nat, j < i → L (fu + 1) (j : Int) = K (j : Int)) : ∀ j fu : Nat, j ≤ N → j < fu → L fu (j : Int) = K ((scanDown p d i j : Nat) : Int)
  | 0, fu, hN, hf => by
    obtain ⟨fu, rfl⟩ : ∃ k, fu = k + 1 := ⟨fu - 1, by omega⟩
    unfold scanDown
    rw [hend fu 0 (by omega)]
  | j + 1, fu, hN, hf => by
    obtain ⟨fu, rfl⟩ : ∃ k, fu = k + 1 := ⟨fu - 1, by omega⟩
    unfold scanDown
    by_cases h : i ≤ j + 1
    · rw [hstep fu (j + 1) h hN, decide_eq_true h, Bool.true_and]
      cases hp : p d[j + 1]! with
      | true => rw [if_pos rfl, if_pos rfl, Nat.add_sub_cancel]; exact scanDown_loop hi hstep hend j fu (by omega) (by omega)
      | false => rw [if_neg (by simp), if_neg (by simp)]
    · rw [hend fu (j + 1) (by omega), decide_eq_false h, Bool.false_and, if_neg (by simp)]
theorem up_ge (p : Int → Bool) (d : AI) (j : Nat) : ∀ n i : Nat, j + 1 - i = n → i ≤ scanUp p d j i ∧ scanUp p d j i ≤ max i (j + 1)
  | 0, i, hn => by unfold scanUp; rw [decide_eq_false (by omega), Bool.false_and, if_neg (by simp)]; omega
  | n + 1, i, hn => by
    have := up_ge p d j n (i + 1) (by omega)
    unfold scanUp
    split <;> omega
theorem dn_le (p : Int → Bool) (d : AI) (i : Nat) : ∀ j : Nat, scanDown p d i j ≤ j ∧ (i ≤ j + 1 → i ≤ scanDown p d i j + 1)
  | 0 => by unfold scanDown; omega
  | j + 1 => by
    have := dn_le p d i j
    unfold scanDown
    split
    · rename_i h
      simp only [Bool.and_eq_true, decide_eq_true_eq] at h
      omega
    · omega
/-! ### reverseRange -/
theorem rev_l0 : ∀ (n i j fu : Nat) (d : AI), j - i ≤ n → n < fu → j < d.size → d.size ≤ 1000000 → i ≤ 1000000 → m_slices_reverseRangeOrdered_uint32_l0 fu d.toList (i : Int) (j : Int) = some (reverseLoop i j d).toList
  | n, i, j, fu, d, hn, hf, hj, hs, hi => by
    obtain ⟨fu, rfl⟩ : ∃ k, fu = k + 1 := ⟨fu - 1, by omega⟩
    unfold m_slices_reverseRangeOrdered_uint32_l0 reverseLoop
    by_cases h : i < j
    · obtain ⟨n, rfl⟩ : ∃ k, n = k + 1 := ⟨n - 1, by omega⟩
      obtain ⟨u, hu⟩ := gS (d := d) (x := d[j]!) (I := (j : Int)) (i := j) (j := i) rfl hj
      rw [d_lt (by omega), cond_true, if_pos h, gA rfl hj, obind_some, gA rfl (by omega), obind_some, obind_some, tN rfl, hu, obind_some, tN rfl, sS, wN (i := i + 1) (by omega) (by omega), wN (i := j - 1) (by omega) (by omega)]
      exact rev_l0 n (i + 1) (j - 1) fu _ (by omega) (by omega) (by rw [swp_size]; omega) (by rw [swp_size]; exact hs) (by omega)
    · rw [d_nlt (by omega), cond_false, if_neg h]
termination_by n => n
theorem rev_ok {a0 b0 : Int} {a b : Nat} (ha : a0 = a) (hb : b0 = b) (hab : a < b) {d : AI} (hbd : b ≤ d.size) (hs : d.size ≤ 1000000) : m_slices_reverseRangeOrdered_uint32 d.toList a0 b0 = some (reverseRange d a b).toList := by
  unfold m_slices_reverseRangeOrdered_uint32 reverseRange
  rw [wN (i := b - 1) (by omega) (by omega), ha]
  exact rev_l0 _ a (b - 1) _ d (Nat.le_refl _) (by omega) (by omega) hs (by omega)
/-! ### partition -/
theorem part_l9 {a0 : Int} {a : Nat} (ha : a0 = a) : ∀ (n i j fu : Nat) (d : AI), j + 1 - i ≤ n → n < fu → a < i → i ≤ j + 2 → a ≤ j → j < d.size → d.size ≤ 1000000 →
    m_slices_partitionOrdered_uint32_l9 a0 fu d.toList (i : Int) (j : Int) = some (((partLoop ltInt a i j d).1 : Int), false, (Go.Sort.swp (partLoop ltInt a i j d).2 (partLoop ltInt a i j d).1 a).toList) := by
  intro n
  induction n with
  | zero =>
    intro i j fu d hn hf h1 h2 h3 h4 hs
    exact part_step ha h1 h2 h3 h4 hs fu hf fun i2 j2 h5 h6 h7 => by omega
  | succ n ih =>
    intro i j fu d hn hf h1 h2 h3 h4 hs
    exact part_step ha h1 h2 h3 h4 hs fu hf fun i2 j2 h5 h6 h7 => ih (i2 + 1) (j2 - 1) (fu - 1) _ (by omega) (by omega) (by omega) (by omega) (by omega) (by rw [swp_size]; omega) (by rw [swp_size]; exact hs)
where
  part_step {a0 : Int} {a : Nat} (ha : a0 = a) {n i j : Nat} {d : AI} (h1 : a < i) (h2 : i ≤ j + 2) (h3 : a ≤ j) (h4 : j < d.size) (hs : d.size ≤ 1000000) (fu : Nat) (hf : n < fu)
      (ih : ∀ i2 j2 : Nat, i ≤ i2 → i2 ≤ j2 → j2 ≤ j → m_slices_partitionOrdered_uint32_l9 a0 (fu - 1) (Go.Sort.swp d i2 j2).toList ((i2 + 1 : Nat) : Int) ((j2 - 1 : Nat) : Int) = some (((partLoop ltInt a (i2 + 1) (j2 - 1) (Go.Sort.swp d i2 j2)).1 : Int), false, (Go.Sort.swp (partLoop ltInt a (i2 + 1) (j2 - 1) (Go.Sort.swp d i2 j2)).2 (partLoop ltInt a (i2 + 1) (j2 - 1) (Go.Sort.swp d i2 j2)).1 a).toList)) :
      m_slices_partitionOrdered_uint32_l9 a0 fu d.toList (i : Int) (j : Int) = some (((partLoop ltInt a i j d).1 : Int), false, (Go.Sort.swp (partLoop ltInt a i j d).2 (partLoop ltInt a i j d).1 a).toList) := by
    obtain ⟨fu, rfl⟩ : ∃ k, fu = k + 1 := ⟨fu - 1, by omega⟩
    rw [Nat.add_sub_cancel] at ih
    have hu := up_ge (fun x => ltInt x d[a]!) d j _ i rfl
    unfold m_slices_partitionOrdered_uint32_l9
    rw [scanUp_loop (L := fun f (x : Int) => m_slices_partitionOrdered_uint32_l10 a0 d.toList (j : Int) (fun y0_9 y10_9 y11_9 => m_slices_partitionOrdered_uint32_l9 a0 fu y0_9 y10_9 y11_9) f x) (K := fun x => m_slices_partitionOrdered_uint32_j12 a0 d.toList (j : Int) (fun y0_9 y10_9 y11_9 => m_slices_partitionOrdered_uint32_l9 a0 fu y0_9 y10_9 y11_9) x) (p := fun x => ltInt x d[a]!) (d := d) (j := j)
      (fun f x hx => by
        show m_slices_partitionOrdered_uint32_l10 _ _ _ _ (f + 1) _ = _
        conv => lhs; unfold m_slices_partitionOrdered_uint32_l10
        rw [decide_eq_true (by omega), cond_true, gA rfl (by omega), obind_some, gA ha (by omega), obind_some, less_ok, obind_some, wN (i := x + 1) (by omega) (by omega)]
        cases ltInt d[x]! d[a]! <;> rfl)
      (fun f x hx => by
        show m_slices_partitionOrdered_uint32_l10 _ _ _ _ (f + 1) _ = _
        unfold m_slices_partitionOrdered_uint32_l10
        rw [decide_eq_false (by omega), cond_false]) _ i 1152921504606846976 rfl (by omega)]
    generalize hi2 : scanUp (fun x => ltInt x d[a]!) d j i = i2 at hu
    have hd := dn_le (fun x => !ltInt x d[a]!) d i2 j
    unfold m_slices_partitionOrdered_uint32_j12
    rw [scanDown_loop (L := fun f (x : Int) => m_slices_partitionOrdered_uint32_l13 a0 d.toList (i2 : Int) (fun y0_9 y10_9 y11_9 => m_slices_partitionOrdered_uint32_l9 a0 fu y0_9 y10_9 y11_9) f x) (K := fun x => m_slices_partitionOrdered_uint32_j15 a0 d.toList (i2 : Int) (fun y0_9 y10_9 y11_9 => m_slices_partitionOrdered_uint32_l9 a0 fu y0_9 y10_9 y11_9) x) (p := fun x => !ltInt x d[a]!) (d := d) (i := i2) (N := j) (by omega)
      (fun f x hx hxj => by
        show m_slices_partitionOrdered_uint32_l13 _ _ _ _ (f + 1) _ = _
        conv => lhs; unfold m_slices_partitionOrdered_uint32_l13
        rw [decide_eq_true (by omega), cond_true, gA rfl (by omega), obind_some, gA ha (by omega), obind_some, less_ok, obind_some, wN (i := x - 1) (by omega) (by omega)]
        cases ltInt d[x]! d[a]! <;> rfl)
      (fun f x hx => by
        show m_slices_partitionOrdered_uint32_l13 _ _ _ _ (f + 1) _ = _
        unfold m_slices_partitionOrdered_uint32_l13
        rw [decide_eq_false (by omega), cond_false]) j 1152921504606846976 (Nat.le_refl _) (by omega)]
    generalize hj2 : scanDown (fun x => !ltInt x d[a]!) d i2 j = j2 at hd
    have hp : partLoop ltInt a i j d = if i2 > j2 then (j2, d) else partLoop ltInt a (i2 + 1) (j2 - 1) (Go.Sort.swp d i2 j2) := by
      rw [partLoop.eq_1]
      simp only [hi2, hj2]
      split
      · rfl
      · rw [dif_pos (by omega)]
    unfold m_slices_partitionOrdered_uint32_j15
    by_cases hc : j2 < i2
    · obtain ⟨u, hu2⟩ := gS (d := d) (x := d[a]!) (I := a0) (i := a) (j := j2) ha (by omega)
      rw [hp, if_pos hc, d_lt (by omega), cond_true, gA ha (by omega), obind_some, gA rfl (by omega), obind_some, obind_some, tN rfl, hu2, obind_some, tN ha, sS]
    · obtain ⟨u, hu2⟩ := gS (d := d) (x := d[j2]!) (I := (j2 : Int)) (i := j2) (j := i2) rfl (by omega)
      rw [hp, if_neg (by omega), d_nlt (by omega), cond_false, gA rfl (by omega), obind_some, gA rfl (by omega), obind_some, obind_some, tN rfl, hu2, obind_some, tN rfl, sS, wN (i := i2 + 1) (by omega) (by omega), wN (i := j2 - 1) (by omega) (by omega)]
      exact ih i2 j2 (by omega) (by omega) (by omega)
end Go.Proofs.Ytelhmhmgaaebpaa.K

namespace Go.Proofs.Ytelhmhmgaaebpaa.K
open Go.RowKit Go.Lib Go.Sort
theorem part_ok {a0 b0 p0 : Int} {a b pv : Nat} (ha : a0 = a) (hb : b0 = b) (hp : p0 = pv) (hap : a ≤ pv) (hpb : pv < b) {d : AI} (hbd : b ≤ d.size) (hs : d.size ≤ 1000000) :
    m_slices_partitionOrdered_uint32 d.toList a0 b0 p0 = some (((partition ltInt d a b pv).1 : Int), (partition ltInt d a b pv).2.1, (partition ltInt d a b pv).2.2.toList) := by
  obtain ⟨u, hu⟩ := gS (d := d) (x := d[pv]!) (I := p0) (i := pv) (j := a) hp (by omega)
  unfold m_slices_partitionOrdered_uint32
  rw [gA hp (by omega), obind_some, gA ha (by omega), obind_some, obind_some, tN ha, hu, obind_some, wN (i := a + 1) (by omega) (by omega)]
  have hD : List.set (List.set d.toList (Int.toNat a0) d[pv]!) (Int.toNat p0) d[a]! = (Go.Sort.swp d a pv).toList := by rw [tN ha, tN hp, sS]
  have hDs : (Go.Sort.swp d a pv).size = d.size := swp_size _ _ _
  unfold partition
  simp only []
  generalize Go.Sort.swp d a pv = D at hD hDs ⊢
  have hup := up_ge (fun x => ltInt x D[a]!) D (b - 1) _ (a + 1) rfl
  rw [scanUp_loop (L := fun f (x : Int) => m_slices_partitionOrdered_uint32_l1 d.toList a0 b0 p0 d[pv]! d[a]! f x) (K := fun x => m_slices_partitionOrdered_uint32_j3 d.toList a0 b0 p0 d[pv]! d[a]! x) (p := fun x => ltInt x D[a]!) (d := D) (j := b - 1)
      (fun f x hx => by
        show m_slices_partitionOrdered_uint32_l1 _ _ _ _ _ _ (f + 1) _ = _
        conv => lhs; unfold m_slices_partitionOrdered_uint32_l1
        rw [hD, wN (n := b0 - 1) (i := b - 1) (by omega) (by omega), decide_eq_true (by omega), cond_true, gA rfl (by omega), obind_some, gA ha (by omega), obind_some, less_ok, obind_some, wN (i := x + 1) (by omega) (by omega)]
        cases ltInt D[x]! D[a]! <;> rfl)
      (fun f x hx => by
        show m_slices_partitionOrdered_uint32_l1 _ _ _ _ _ _ (f + 1) _ = _
        conv => lhs; unfold m_slices_partitionOrdered_uint32_l1
        rw [wN (n := b0 - 1) (i := b - 1) (by omega) (by omega), decide_eq_false (by omega), cond_false]) _ (a + 1) 1152921504606846976 rfl (by omega)]
  generalize scanUp (fun x => ltInt x D[a]!) D (b - 1) (a + 1) = i at hup ⊢
  have hdn := dn_le (fun x => !ltInt x D[a]!) D i (b - 1)
  unfold m_slices_partitionOrdered_uint32_j3
  rw [wN (n := b0 - 1) (i := b - 1) (by omega) (by omega), scanDown_loop (L := fun f (x : Int) => m_slices_partitionOrdered_uint32_l4 d.toList a0 p0 d[pv]! d[a]! (i : Int) f x) (K := fun x => m_slices_partitionOrdered_uint32_j6 d.toList a0 p0 d[pv]! d[a]! (i : Int) x) (p := fun x => !ltInt x D[a]!) (d := D) (i := i) (N := b - 1) (by omega)
      (fun f x hx hxj => by
        show m_slices_partitionOrdered_uint32_l4 _ _ _ _ _ _ (f + 1) _ = _
        conv => lhs; unfold m_slices_partitionOrdered_uint32_l4
        rw [hD, decide_eq_true (by omega), cond_true, gA rfl (by omega), obind_some, gA ha (by omega), obind_some, less_ok, obind_some, wN (i := x - 1) (by omega) (by omega)]
        cases ltInt D[x]! D[a]! <;> rfl)
      (fun f x hx => by
        show m_slices_partitionOrdered_uint32_l4 _ _ _ _ _ _ (f + 1) _ = _
        conv => lhs; unfold m_slices_partitionOrdered_uint32_l4
        rw [decide_eq_false (by omega), cond_false]) (b - 1) 1152921504606846976 (Nat.le_refl _) (by omega)]
  generalize scanDown (fun x => !ltInt x D[a]!) D i (b - 1) = j at hdn ⊢
  unfold m_slices_partitionOrdered_uint32_j6
  rw [hD]
  by_cases hc : j < i
  · obtain ⟨u, hu2⟩ := gS (d := D) (x := D[a]!) (I := a0) (i := a) (j := j) ha (by omega)
    rw [if_pos hc, d_lt (by omega), cond_true, gA ha (by omega), obind_some, gA rfl (by omega), obind_some, obind_some, tN rfl, hu2, obind_some, tN ha, sS]
  · obtain ⟨u, hu2⟩ := gS (d := D) (x := D[j]!) (I := (j : Int)) (i := j) (j := i) rfl (by omega)
    rw [if_neg (by omega), d_nlt (by omega), cond_false, gA rfl (by omega), obind_some, gA rfl (by omega), obind_some, obind_some, tN rfl, hu2, obind_some, tN rfl, sS, wN (i := i + 1) (by omega) (by omega), wN (i := j - 1) (by omega) (by omega)]
    exact part_l9 ha _ (i + 1) (j - 1) _ _ (Nat.le_refl _) (by omega) (by omega) (by omega) (by omega) (by rw [swp_size]; omega) (by rw [swp_size]; omega)
/-! ### partitionEqual -/
theorem pe_step {a0 : Int} {a : Nat} (ha : a0 = a) {n i j : Nat} {d : AI} (h1 : a < i) (h2 : i ≤ j + 2) (h3 : a ≤ j) (h4 : j < d.size) (hs : d.size ≤ 1000000) (fu : Nat) (hf : n < fu)
      (ih : ∀ i2 j2 : Nat, i ≤ i2 → i2 ≤ j2 → j2 ≤ j → m_slices_partitionEqualOrdered_uint32_l1 a0 (fu - 1) (Go.Sort.swp d i2 j2).toList ((i2 + 1 : Nat) : Int) ((j2 - 1 : Nat) : Int) = some (((partEqLoop ltInt a (i2 + 1) (j2 - 1) (Go.Sort.swp d i2 j2)).1 : Int), (partEqLoop ltInt a (i2 + 1) (j2 - 1) (Go.Sort.swp d i2 j2)).2.toList)) :
      m_slices_partitionEqualOrdered_uint32_l1 a0 fu d.toList (i : Int) (j : Int) = some (((partEqLoop ltInt a i j d).1 : Int), (partEqLoop ltInt a i j d).2.toList) := by
    obtain ⟨fu, rfl⟩ : ∃ k, fu = k + 1 := ⟨fu - 1, by omega⟩
    rw [Nat.add_sub_cancel] at ih
    have hu := up_ge (fun x => !ltInt d[a]! x) d j _ i rfl
    unfold m_slices_partitionEqualOrdered_uint32_l1
    rw [scanUp_loop (L := fun f (x : Int) => m_slices_partitionEqualOrdered_uint32_l2 a0 d.toList (j : Int) (fun y0_9 y10_9 y11_9 => m_slices_partitionEqualOrdered_uint32_l1 a0 fu y0_9 y10_9 y11_9) f x) (K := fun x => m_slices_partitionEqualOrdered_uint32_j4 a0 d.toList (j : Int) (fun y0_9 y10_9 y11_9 => m_slices_partitionEqualOrdered_uint32_l1 a0 fu y0_9 y10_9 y11_9) x) (p := fun x => !ltInt d[a]! x) (d := d) (j := j)
      (fun f x hx => by
        show m_slices_partitionEqualOrdered_uint32_l2 _ _ _ _ (f + 1) _ = _
        conv => lhs; unfold m_slices_partitionEqualOrdered_uint32_l2
        rw [decide_eq_true (by omega), cond_true, gA ha (by omega), obind_some, gA rfl (by omega), obind_some, less_ok, obind_some, wN (i := x + 1) (by omega) (by omega)]
        cases ltInt d[a]! d[x]! <;> rfl)
      (fun f x hx => by
        show m_slices_partitionEqualOrdered_uint32_l2 _ _ _ _ (f + 1) _ = _
        conv => lhs; unfold m_slices_partitionEqualOrdered_uint32_l2
        rw [decide_eq_false (by omega), cond_false]) _ i 1152921504606846976 rfl (by omega)]
    generalize hi2 : scanUp (fun x => !ltInt d[a]! x) d j i = i2 at hu
    have hd := dn_le (fun x => ltInt d[a]! x) d i2 j
    unfold m_slices_partitionEqualOrdered_uint32_j4
    rw [scanDown_loop (L := fun f (x : Int) => m_slices_partitionEqualOrdered_uint32_l5 a0 d.toList (i2 : Int) (fun y0_9 y10_9 y11_9 => m_slices_partitionEqualOrdered_uint32_l1 a0 fu y0_9 y10_9 y11_9) f x) (K := fun x => m_slices_partitionEqualOrdered_uint32_j7 d.toList (i2 : Int) (fun y0_9 y10_9 y11_9 => m_slices_partitionEqualOrdered_uint32_l1 a0 fu y0_9 y10_9 y11_9) x) (p := fun x => ltInt d[a]! x) (d := d) (i := i2) (N := j) (by omega)
      (fun f x hx hxj => by
        show m_slices_partitionEqualOrdered_uint32_l5 _ _ _ _ (f + 1) _ = _
        conv => lhs; unfold m_slices_partitionEqualOrdered_uint32_l5
        rw [decide_eq_true (by omega), cond_true, gA ha (by omega), obind_some, gA rfl (by omega), obind_some, less_ok, obind_some, wN (i := x - 1) (by omega) (by omega)]
        cases ltInt d[a]! d[x]! <;> rfl)
      (fun f x hx => by
        show m_slices_partitionEqualOrdered_uint32_l5 _ _ _ _ (f + 1) _ = _
        conv => lhs; unfold m_slices_partitionEqualOrdered_uint32_l5
        rw [decide_eq_false (by omega), cond_false]) j 1152921504606846976 (Nat.le_refl _) (by omega)]
    generalize hj2 : scanDown (fun x => ltInt d[a]! x) d i2 j = j2 at hd
    have hp : partEqLoop ltInt a i j d = if i2 > j2 then (i2, d) else partEqLoop ltInt a (i2 + 1) (j2 - 1) (Go.Sort.swp d i2 j2) := by
      rw [partEqLoop.eq_1]
      simp only [hi2, hj2]
      split
      · rfl
      · rw [dif_pos (by omega)]
    unfold m_slices_partitionEqualOrdered_uint32_j7
    by_cases hc : j2 < i2
    · rw [hp, if_pos hc, d_lt (by omega), cond_true]
    · obtain ⟨u, hu2⟩ := gS (d := d) (x := d[j2]!) (I := (j2 : Int)) (i := j2) (j := i2) rfl (by omega)
      rw [hp, if_neg (by omega), d_nlt (by omega), cond_false, gA rfl (by omega), obind_some, gA rfl (by omega), obind_some, obind_some, tN rfl, hu2, obind_some, tN rfl, sS, wN (i := i2 + 1) (by omega) (by omega), wN (i := j2 - 1) (by omega) (by omega)]
      exact ih i2 j2 (by omega) (by omega) (by omega)
theorem pe_l1 {a0 : Int} {a : Nat} (ha : a0 = a) : ∀ (n i j fu : Nat) (d : AI), j + 1 - i ≤ n → n < fu → a < i → i ≤ j + 2 → a ≤ j → j < d.size → d.size ≤ 1000000 →
    m_slices_partitionEqualOrdered_uint32_l1 a0 fu d.toList (i : Int) (j : Int) = some (((partEqLoop ltInt a i j d).1 : Int), (partEqLoop ltInt a i j d).2.toList) := by
  intro n
  induction n with
  | zero =>
    intro i j fu d hn hf h1 h2 h3 h4 hs
    exact pe_step ha h1 h2 h3 h4 hs fu hf fun i2 j2 h5 h6 h7 => by omega
  | succ n ih =>
    intro i j fu d hn hf h1 h2 h3 h4 hs
    exact pe_step ha h1 h2 h3 h4 hs fu hf fun i2 j2 h5 h6 h7 => ih (i2 + 1) (j2 - 1) (fu - 1) _ (by omega) (by omega) (by omega) (by omega) (by omega) (by rw [swp_size]; omega) (by rw [swp_size]; exact hs)
theorem pe_ok {a0 b0 p0 : Int} {a b pv : Nat} (ha : a0 = a) (hb : b0 = b) (hp : p0 = pv) (hap : a ≤ pv) (hpb : pv < b) {d : AI} (hbd : b ≤ d.size) (hs : d.size ≤ 1000000) :
    m_slices_partitionEqualOrdered_uint32 d.toList a0 b0 p0 = some (((partitionEqual ltInt d a b pv).1 : Int), (partitionEqual ltInt d a b pv).2.toList) := by
  obtain ⟨u, hu⟩ := gS (d := d) (x := d[pv]!) (I := p0) (i := pv) (j := a) hp (by omega)
  unfold m_slices_partitionEqualOrdered_uint32 partitionEqual
  rw [gA hp (by omega), obind_some, gA ha (by omega), obind_some, obind_some, tN ha, hu, obind_some, tN hp, sS, wN (i := a + 1) (by omega) (by omega), wN (i := b - 1) (by omega) (by omega)]
  exact pe_l1 ha _ (a + 1) (b - 1) _ _ (Nat.le_refl _) (by omega) (by omega) (by omega) (by omega) (by rw [swp_size]; omega) (by rw [swp_size]; exact hs)
end Go.Proofs.Ytelhmhmgaaebpaa.K

namespace Go.Proofs.Ytelhmhmgaaebpaa.K
open Go.RowKit Go.Lib Go.Sort
theorem ss_range (d : AI) (b : Nat) : ∀ n i : Nat, b - i = n → i ≤ scanSorted ltInt d b i ∧ scanSorted ltInt d b i ≤ max i b
  | 0, i, hn => by unfold scanSorted; rw [decide_eq_false (by omega), Bool.false_and, if_neg (by simp)]; omega
  | n + 1, i, hn => by
    have := ss_range d b n (i + 1) (by omega)
    unfold scanSorted
    split <;> omega
theorem sd_size : ∀ (j : Nat) (d : AI), (shiftDown ltInt j d).size = d.size
  | 0, d => rfl
  | j + 1, d => by
    unfold shiftDown
    split
    · rfl
    · rw [sd_size j, swp_size]
theorem su_size (b : Nat) : ∀ (n j : Nat) (d : AI), b - j = n → (shiftUp ltInt b j d).size = d.size
  | 0, j, d, hn => by unfold shiftUp; rw [if_neg (by omega)]
  | n + 1, j, d, hn => by
    unfold shiftUp
    rw [if_pos (by omega)]
    split
    · rfl
    · rw [su_size b n _ _ (by omega), swp_size]
abbrev KI := List Int → Int → Int → Option (Bool × List Int)
theorem ps_l9 {b0 i0 s0 : Int} {b : Nat} (hb : b0 = b) (k : KI) : ∀ (n j fu : Nat) (d : AI), b - j = n → n < fu → 1 ≤ j → b ≤ d.size → d.size ≤ 1000000 → j ≤ 1000000 →
    m_slices_partialInsertionSortOrdered_uint32_l9 b0 i0 s0 k fu d.toList (j : Int) = k (shiftUp ltInt b j d).toList i0 (IntKind.i64.wrap (s0 + 1))
  | n, j, fu, d, hn, hf, hj, hbd, hs, hjs => by
    obtain ⟨fu, rfl⟩ : ∃ k, fu = k + 1 := ⟨fu - 1, by omega⟩
    unfold m_slices_partialInsertionSortOrdered_uint32_l9 shiftUp
    by_cases h : j < b
    · obtain ⟨n, rfl⟩ : ∃ k, n = k + 1 := ⟨n - 1, by omega⟩
      rw [d_lt (by omega), cond_true, if_pos h, wN (n := (j : Int) - 1) (i := j - 1) (by omega) (by omega), gA rfl (by omega), obind_some, gA rfl (by omega), obind_some, less_ok, obind_some]
      cases hl : ltInt d[j]! d[j - 1]! with
      | false => rw [Bool.not_false, cond_true, if_pos rfl]
      | true =>
        obtain ⟨u, hu⟩ := gS (d := d) (x := d[j - 1]!) (I := ((j - 1 : Nat) : Int)) (i := j - 1) (j := j) rfl (by omega)
        rw [Bool.not_true, cond_false, obind_some, obind_some, obind_some, tN rfl, hu, obind_some, tN rfl, sS, if_neg (by simp), wN (i := j + 1) (by omega) (by omega)]
        exact ps_l9 hb k n (j + 1) fu _ (by omega) (by omega) (by omega) (by rw [swp_size]; exact hbd) (by rw [swp_size]; exact hs) (by omega)
    · rw [d_nlt (by omega), cond_false, if_neg h]
termination_by n => n
theorem ps_j8 {b0 i0 s0 : Int} {b i : Nat} (hb : b0 = b) (hi : i0 = i) (k : KI) {d : AI} (hib : i ≤ b) (hbd : b ≤ d.size) (hs : d.size ≤ 1000000) :
    m_slices_partialInsertionSortOrdered_uint32_j8 b0 i0 s0 k d.toList = k (if b - i ≥ 2 then shiftUp ltInt b (i + 1) d else d).toList i0 (IntKind.i64.wrap (s0 + 1)) := by
  unfold m_slices_partialInsertionSortOrdered_uint32_j8
  rw [wN (i := b - i) (by omega) (by omega)]
  by_cases h : b - i ≥ 2
  · rw [decide_eq_true (by omega), cond_true, if_pos h, wN (i := i + 1) (by omega) (by omega)]
    exact ps_l9 hb k _ (i + 1) _ d rfl (by omega) (by omega) hbd hs (by omega)
  · rw [decide_eq_false (by omega), cond_false, if_neg h]
theorem ps_l5 {b0 i0 s0 : Int} {b i : Nat} (hb : b0 = b) (hi : i0 = i) (k : KI) (hib : i ≤ b) : ∀ (j fu : Nat) (d : AI), j < fu → j < d.size → b ≤ d.size → d.size ≤ 1000000 →
    m_slices_partialInsertionSortOrdered_uint32_l5 b0 i0 s0 k fu d.toList (j : Int) = k (if b - i ≥ 2 then shiftUp ltInt b (i + 1) (shiftDown ltInt j d) else shiftDown ltInt j d).toList i0 (IntKind.i64.wrap (s0 + 1))
  | 0, fu, d, hf, hj, hbd, hs => by
    obtain ⟨fu, rfl⟩ : ∃ k, fu = k + 1 := ⟨fu - 1, by omega⟩
    unfold m_slices_partialInsertionSortOrdered_uint32_l5 shiftDown
    rw [decide_eq_false (by omega), cond_false, ps_j8 hb hi k hib hbd hs]
  | j + 1, fu, d, hf, hj, hbd, hs => by
    obtain ⟨fu, rfl⟩ : ∃ k, fu = k + 1 := ⟨fu - 1, by omega⟩
    unfold m_slices_partialInsertionSortOrdered_uint32_l5 shiftDown
    rw [decide_eq_true (by omega), cond_true, wN (n := ((j + 1 : Nat) : Int) - 1) (i := j) (by omega) (by omega), gA rfl (by omega), obind_some, gA rfl (by omega), obind_some, less_ok, obind_some]
    cases hl : ltInt d[j + 1]! d[j]! with
    | false => rw [Bool.not_false, cond_true, if_pos rfl, ps_j8 hb hi k hib hbd hs]
    | true =>
      obtain ⟨u, hu⟩ := gS (d := d) (x := d[j]!) (I := (j : Int)) (i := j) (j := j + 1) rfl (by omega)
      have hnt : ¬ (!true) = true := by simp
      rw [if_neg hnt, Bool.not_true, cond_false, obind_some, obind_some, obind_some, tN rfl, hu, obind_some, tN rfl, sS]
      exact ps_l5 hb hi k hib j fu _ (by omega) (by rw [swp_size]; omega) (by rw [swp_size]; exact hbd) (by rw [swp_size]; exact hs)
theorem ps_l0 {a0 b0 : Int} {a b : Nat} (ha : a0 = a) (hb : b0 = b) : ∀ (s i fu : Nat) (d : AI), s ≤ 5 → s < fu → a + 1 ≤ i → i ≤ b → b ≤ d.size → d.size ≤ 1000000 →
    m_slices_partialInsertionSortOrdered_uint32_l0 a0 b0 fu d.toList (i : Int) (5 - (s : Int)) = some ((partialIns ltInt a b s i d).2, (partialIns ltInt a b s i d).1.toList)
  | 0, i, fu, d, h5, hf, h1, h2, h3, hs => by
    obtain ⟨fu, rfl⟩ : ∃ k, fu = k + 1 := ⟨fu - 1, by omega⟩
    unfold m_slices_partialInsertionSortOrdered_uint32_l0 partialIns
    rw [decide_eq_false (by omega), cond_false]
  | s + 1, i, fu, d, h5, hf, h1, h2, h3, hs => by
    obtain ⟨fu, rfl⟩ : ∃ k, fu = k + 1 := ⟨fu - 1, by omega⟩
    have hr := ss_range d b _ i rfl
    unfold m_slices_partialInsertionSortOrdered_uint32_l0 partialIns
    rw [decide_eq_true (by omega), cond_true]
    have scan : ∀ n x f : Nat, b - x = n → n < f → 1 ≤ x → x ≤ b → m_slices_partialInsertionSortOrdered_uint32_l1 a0 b0 d.toList (5 - ((s + 1 : Nat) : Int)) (fun y0_0 y7_0 y8_0 => m_slices_partialInsertionSortOrdered_uint32_l0 a0 b0 fu y0_0 y7_0 y8_0) f (x : Int) = m_slices_partialInsertionSortOrdered_uint32_j3 a0 b0 d.toList (5 - ((s + 1 : Nat) : Int)) (fun y0_0 y7_0 y8_0 => m_slices_partialInsertionSortOrdered_uint32_l0 a0 b0 fu y0_0 y7_0 y8_0) ((scanSorted ltInt d b x : Nat) : Int) := by
      intro n
      induction n with
      | zero =>
        intro x f hx hf h1 h2
        obtain ⟨f, rfl⟩ : ∃ k, f = k + 1 := ⟨f - 1, by omega⟩
        unfold m_slices_partialInsertionSortOrdered_uint32_l1 scanSorted
        rw [d_nlt (by omega), cond_false, decide_eq_false (by omega), Bool.false_and, if_neg (by simp)]
      | succ n ih =>
        intro x f hx hf h1 h2
        obtain ⟨f, rfl⟩ : ∃ k, f = k + 1 := ⟨f - 1, by omega⟩
        unfold m_slices_partialInsertionSortOrdered_uint32_l1 scanSorted
        rw [d_lt (by omega), cond_true, gA rfl (by omega), obind_some, wN (n := (x : Int) - 1) (i := x - 1) (by omega) (by omega), gA rfl (by omega), obind_some, less_ok, obind_some, decide_eq_true (show x < b by omega), Bool.true_and]
        cases hl : ltInt d[x]! d[x - 1]! with
        | false => rw [Bool.not_false, cond_true, if_pos rfl, wN (i := x + 1) (by omega) (by omega)]; exact ih (x + 1) f (by omega) (by omega) (by omega) (by omega)
        | true => rw [Bool.not_true, cond_false, if_neg (by simp)]
    rw [scan _ i 1152921504606846976 rfl (by omega) (by omega) h2]
    simp only []
    generalize scanSorted ltInt d b i = i' at hr ⊢
    unfold m_slices_partialInsertionSortOrdered_uint32_j3
    by_cases he : i' = b
    · rw [decide_eq_true (by omega), cond_true, if_pos he]
    · rw [decide_eq_false (by omega), cond_false, if_neg he, wN (n := b0 - a0) (i := b - a) (by omega) (by omega)]
      by_cases h50 : b - a < 50
      · rw [d_lt (by omega), cond_true, if_pos h50]
      · obtain ⟨u, hu⟩ := gS (d := d) (x := d[i' - 1]!) (I := ((i' - 1 : Nat) : Int)) (i := i' - 1) (j := i') rfl (by omega)
        have eS : IntKind.i64.wrap ((5 - ((s + 1 : Nat) : Int)) + 1) = 5 - (s : Int) := by rw [w64 (by omega) (by omega)]; omega
        rw [d_nlt (by omega), cond_false, if_neg h50, wN (n := (i' : Int) - 1) (i := i' - 1) (by omega) (by omega), gA rfl (by omega), obind_some, gA rfl (by omega), obind_some, obind_some, tN rfl, hu, obind_some, tN rfl, sS, wN (n := (i' : Int) - a0) (i := i' - a) (by omega) (by omega)]
        have z1 : (Go.Sort.swp d i' (i' - 1)).size = d.size := swp_size _ _ _
        generalize Go.Sort.swp d i' (i' - 1) = D at z1 ⊢
        by_cases h2a : i' - a ≥ 2
        · rw [decide_eq_true (by omega), cond_true, if_pos h2a, ps_l5 hb rfl _ (by omega) (i' - 1) _ D (by omega) (by omega) (by omega) (by omega), eS]
          have z2 : (if b - i' ≥ 2 then shiftUp ltInt b (i' + 1) (shiftDown ltInt (i' - 1) D) else shiftDown ltInt (i' - 1) D).size = d.size := by
            split
            · rw [su_size b _ _ _ rfl, sd_size, z1]
            · rw [sd_size, z1]
          exact ps_l0 ha hb s i' fu _ (by omega) (by omega) (by omega) (by omega) (by omega) (by omega)
        · rw [decide_eq_false (by omega), cond_false, if_neg h2a, ps_j8 hb rfl _ (by omega) (by omega) (by omega), eS]
          have z2 : (if b - i' ≥ 2 then shiftUp ltInt b (i' + 1) D else D).size = d.size := by
            split
            · rw [su_size b _ _ _ rfl, z1]
            · exact z1
          exact ps_l0 ha hb s i' fu _ (by omega) (by omega) (by omega) (by omega) (by omega) (by omega)
theorem ps_ok {a0 b0 : Int} {a b : Nat} (ha : a0 = a) (hb : b0 = b) (hab : a < b) {d : AI} (hbd : b ≤ d.size) (hs : d.size ≤ 1000000) : m_slices_partialInsertionSortOrdered_uint32 d.toList a0 b0 = some ((partialInsertionSort ltInt d a b).2, (partialInsertionSort ltInt d a b).1.toList) := by
  unfold m_slices_partialInsertionSortOrdered_uint32 partialInsertionSort
  rw [wN (i := a + 1) (by omega) (by omega)]
  exact ps_l0 ha hb 5 (a + 1) _ d (Nat.le_refl _) (by omega) (Nat.le_refl _) (by omega) hbd hs
/-! ### choosePivot: any place in the range -/
theorem ord_ok {d : AI} {i0 j0 c : Int} {i j : Nat} (hi0 : i0 = i) (hj0 : j0 = j) (hi : i < d.size) (hj : j < d.size) : ∃ (x y : Nat) (s : Int), m_slices_order2Ordered_uint32 d.toList i0 j0 c = some ((x : Int), (y : Int), s) ∧ ((x = i ∧ y = j) ∨ (x = j ∧ y = i)) := by
  unfold m_slices_order2Ordered_uint32
  rw [gA hj0 hj, obind_some, gA hi0 hi, obind_some, less_ok, obind_some]
  cases ltInt d[j]! d[i]! with
  | true => rw [cond_true, hi0, hj0]; exact ⟨j, i, _, rfl, .inr ⟨rfl, rfl⟩⟩
  | false => rw [cond_false, hi0, hj0]; exact ⟨i, j, _, rfl, .inl ⟨rfl, rfl⟩⟩
theorem med_ok {d : AI} {i0 j0 k0 c : Int} {i j k : Nat} (hi0 : i0 = i) (hj0 : j0 = j) (hk0 : k0 = k) (hi : i < d.size) (hj : j < d.size) (hk : k < d.size) : ∃ (x : Nat) (s : Int), m_slices_medianOrdered_uint32 d.toList i0 j0 k0 c = some ((x : Int), s) ∧ (x = i ∨ x = j ∨ x = k) := by
  unfold m_slices_medianOrdered_uint32
  obtain ⟨x1, y1, s1, e1, h1⟩ := ord_ok (c := c) hi0 hj0 hi hj
  rw [e1, obind_some]
  simp only []
  obtain ⟨x2, y2, s2, e2, h2⟩ := ord_ok (d := d) (c := s1) (i0 := (y1 : Int)) rfl hk0 (by omega) hk
  rw [e2, obind_some]
  simp only []
  obtain ⟨x3, y3, s3, e3, h3⟩ := ord_ok (d := d) (c := s2) (i0 := (x1 : Int)) (j0 := (x2 : Int)) rfl rfl (by omega) (by omega)
  rw [e3, obind_some]
  exact ⟨y3, s3, rfl, by omega⟩
theorem madj_ok {d : AI} {i0 c : Int} {i : Nat} (hi0 : i0 = i) (h1 : 1 ≤ i) (h2 : i + 1 < d.size) (hs : d.size ≤ 1000000) : ∃ (x : Nat) (s : Int), m_slices_medianAdjacentOrdered_uint32 d.toList i0 c = some ((x : Int), s) ∧ i - 1 ≤ x ∧ x ≤ i + 1 := by
  unfold m_slices_medianAdjacentOrdered_uint32
  obtain ⟨x, s, e, h⟩ := med_ok (c := c) (d := d) (i0 := IntKind.i64.wrap (i0 - 1)) (j0 := i0) (k0 := IntKind.i64.wrap (i0 + 1)) (i := i - 1) (j := i) (k := i + 1) (wN (by omega) (by omega)) hi0 (wN (by omega) (by omega)) (by omega) (by omega) h2
  rw [e, obind_some]
  exact ⟨x, s, rfl, by omega⟩
theorem cp_j7 (s : Int) (x : Nat) : ∃ h : Int, m_slices_choosePivotOrdered_uint32_j7 s (x : Int) = some ((x : Int), h) := by
  unfold m_slices_choosePivotOrdered_uint32_j7
  by_cases h0 : s = 0
  · rw [decide_eq_true h0, cond_true]; exact ⟨_, rfl⟩
  · rw [decide_eq_false h0, cond_false]
    by_cases h1 : s = 12
    · rw [decide_eq_true h1, cond_true]; exact ⟨_, rfl⟩
    · rw [decide_eq_false h1, cond_false]; exact ⟨_, rfl⟩
theorem cp_ok {a0 b0 : Int} {a b : Nat} (ha : a0 = a) (hb : b0 = b) (hab : a + 12 < b) {d : AI} (hbd : b ≤ d.size) (hs : d.size ≤ 1000000) : ∃ (x : Nat) (h : Int), m_slices_choosePivotOrdered_uint32 d.toList a0 b0 = some ((x : Int), h) ∧ a ≤ x ∧ x < b := by
  have e1 : IntKind.i64.wrap (b0 - a0) = ((b - a : Nat) : Int) := wN (by omega) (by omega)
  have e2 : IntKind.i64.wrap (Int.tdiv ((b - a : Nat) : Int) 4) = (((b - a) / 4 : Nat) : Int) := by
    rw [Int.tdiv_eq_ediv_of_nonneg (by omega)]
    exact wN (by omega) (by omega)
  have e3 : ∀ c : Nat, c ≤ 3 → IntKind.i64.wrap (a0 + IntKind.i64.wrap ((((b - a) / 4 : Nat) : Int) * (c : Int))) = ((a + (b - a) / 4 * c : Nat) : Int) := fun c hc => by
    have h3 : (b - a) / 4 * c ≤ (b - a) / 4 * 3 := Nat.mul_le_mul_left _ hc
    have e : (((b - a) / 4 : Nat) : Int) * (c : Int) = (((b - a) / 4 * c : Nat) : Int) := by rw [Int.natCast_mul]
    rw [e, wN (i := (b - a) / 4 * c) rfl (by omega)]
    exact wN (by omega) (by omega)
  have p1 : IntKind.i64.wrap (a0 + IntKind.i64.wrap ((((b - a) / 4 : Nat) : Int) * 1)) = ((a + (b - a) / 4 * 1 : Nat) : Int) := e3 1 (by omega)
  have p2 : IntKind.i64.wrap (a0 + IntKind.i64.wrap ((((b - a) / 4 : Nat) : Int) * 2)) = ((a + (b - a) / 4 * 2 : Nat) : Int) := e3 2 (by omega)
  have p3 : IntKind.i64.wrap (a0 + IntKind.i64.wrap ((((b - a) / 4 : Nat) : Int) * 3)) = ((a + (b - a) / 4 * 3 : Nat) : Int) := e3 3 (by omega)
  unfold m_slices_choosePivotOrdered_uint32
  rw [e1, e2]
  rw [p1, obind_some, p2, obind_some, p3, obind_some, decide_eq_true (by omega), cond_true]
  have j6 : ∀ (s : Int) (i j k : Nat), a ≤ i → i < b → a ≤ j → j < b → a ≤ k → k < b → ∃ (x : Nat) (h : Int), m_slices_choosePivotOrdered_uint32_j6 d.toList s (i : Int) (j : Int) (k : Int) = some ((x : Int), h) ∧ a ≤ x ∧ x < b := fun s i j k h1 h2 h3 h4 h5 h6 => by
    unfold m_slices_choosePivotOrdered_uint32_j6
    obtain ⟨x, s', e, h⟩ := med_ok (c := s) (d := d) (i0 := (i : Int)) (j0 := (j : Int)) (k0 := (k : Int)) rfl rfl rfl (by omega) (by omega) (by omega)
    obtain ⟨hh, e'⟩ := cp_j7 s' x
    rw [e, obind_some, e']
    exact ⟨x, hh, rfl, by omega⟩
  by_cases h50 : 50 ≤ b - a
  · rw [decide_eq_true (by omega), cond_true]
    obtain ⟨x1, s1, q1, r1⟩ := madj_ok (c := 0) (d := d) (i0 := ((a + (b - a) / 4 * 1 : Nat) : Int)) rfl (by omega) (by omega) hs
    rw [q1, obind_some]
    obtain ⟨x2, s2, q2, r2⟩ := madj_ok (c := s1) (d := d) (i0 := ((a + (b - a) / 4 * 2 : Nat) : Int)) rfl (by omega) (by omega) hs
    simp only []
    rw [q2, obind_some]
    obtain ⟨x3, s3, q3, r3⟩ := madj_ok (c := s2) (d := d) (i0 := ((a + (b - a) / 4 * 3 : Nat) : Int)) rfl (by omega) (by omega) hs
    simp only []
    rw [q3, obind_some]
    exact j6 s3 x1 x2 x3 (by omega) (by omega) (by omega) (by omega) (by omega) (by omega)
  · rw [decide_eq_false (by omega), cond_false]
    exact j6 0 _ _ _ (by omega) (by omega) (by omega) (by omega) (by omega) (by omega)
end Go.Proofs.Ytelhmhmgaaebpaa.K

namespace Go.Proofs.Ytelhmhmgaaebpaa.K
open Go.RowKit Go.Lib Go.Sort
def npchk (n : Nat) : Bool := match m_slices_nextPowerOfTwo (n : Int) with | some m => decide (1 ≤ m) && decide (m ≤ 2 * n) | none => false
theorem np_all : ∀ n : Fin 256, (decide (n.val < 8) || npchk n.val) = true := by decide +kernel
theorem np_ok {n : Nat} (h8 : 8 ≤ n) (h : n < 256) : ∃ m : Nat, m_slices_nextPowerOfTwo (n : Int) = some (m : Int) ∧ 1 ≤ m ∧ m ≤ 2 * n := by
  have := np_all ⟨n, h⟩
  simp only [decide_eq_false (show ¬ n < 8 by omega), Bool.false_or] at this
  unfold npchk at this
  cases hq : m_slices_nextPowerOfTwo (n : Int) with
  | none => rw [hq] at this; cases this
  | some m =>
    rw [hq] at this
    simp only [Bool.and_eq_true, decide_eq_true_eq] at this
    exact ⟨m.toNat, by rw [Int.toNat_of_nonneg (by omega)], by omega, by omega⟩
theorem and_ok (x : Int) {m : Nat} (h1 : 1 ≤ m) (h2 : m ≤ 1000) : ∃ t : Nat, IntKind.u64.wrap (((BitVec.ofInt 64 x &&& BitVec.ofInt 64 (IntKind.u64.wrap ((m : Int) - 1))).toNat : Int)) = (t : Int) ∧ t < m := by
  have e1 : IntKind.u64.wrap ((m : Int) - 1) = ((m - 1 : Nat) : Int) := by rw [wu64]; omega
  have h3 : (BitVec.ofInt 64 x &&& BitVec.ofInt 64 ((m - 1 : Nat) : Int)).toNat ≤ m - 1 := by
    rw [BitVec.toNat_and]
    refine Nat.le_trans Nat.and_le_right ?_
    rw [BitVec.ofInt_natCast, BitVec.toNat_ofNat]
    exact Nat.mod_le _ _
  rw [e1, wu64]
  exact ⟨(BitVec.ofInt 64 x &&& BitVec.ofInt 64 ((m - 1 : Nat) : Int)).toNat, by omega, by omega⟩
theorem xor_some (x : Int) : ∃ r, m_slices_xorshift_Next x = some r := ⟨_, rfl⟩
theorem bp_l3 {a0 b0 : Int} {a b m : Nat} (ha : a0 = a) (hb : b0 = b) (h8 : a + 8 ≤ b) (hm1 : 1 ≤ m) (hm2 : m ≤ 2 * (b - a)) : ∀ (n y fu : Nat) (d : AI) (x : Int), a + (b - a) / 4 * 2 + 2 - y = n → n < fu → a ≤ y → b ≤ d.size → d.size ≤ 255 →
    ∃ R : AI, m_slices_breakPatternsOrdered_uint32_l3 a0 b0 (m : Int) fu d.toList x (y : Int) = some R.toList ∧ PermIn a b d R := by
  intro n
  induction n with
  | zero =>
    intro y fu d x hn hf hy hbd hs
    obtain ⟨fu, rfl⟩ : ∃ k, fu = k + 1 := ⟨fu - 1, by omega⟩
    have e1 : IntKind.i64.wrap (b0 - a0) = ((b - a : Nat) : Int) := wN (by omega) (by omega)
    have e2 : IntKind.i64.wrap (Int.tdiv ((b - a : Nat) : Int) 4) = (((b - a) / 4 : Nat) : Int) := by
      rw [Int.tdiv_eq_ediv_of_nonneg (by omega)]
      exact wN (by omega) (by omega)
    have e3 : IntKind.i64.wrap ((((b - a) / 4 : Nat) : Int) * 2) = (((b - a) / 4 * 2 : Nat) : Int) := wN (by omega) (by omega)
    have e4 : IntKind.i64.wrap (a0 + (((b - a) / 4 * 2 : Nat) : Int)) = ((a + (b - a) / 4 * 2 : Nat) : Int) := wN (by omega) (by omega)
    have e5 : IntKind.i64.wrap (((a + (b - a) / 4 * 2 : Nat) : Int) + 1) = ((a + (b - a) / 4 * 2 + 1 : Nat) : Int) := wN (by omega) (by omega)
    unfold m_slices_breakPatternsOrdered_uint32_l3
    rw [e1, e2, e3, e4, obind_some, e5, decide_eq_false (by omega), cond_false]
    exact ⟨d, rfl, permIn_refl _ _ _⟩
  | succ n ih =>
    intro y fu d x hn hf hy hbd hs
    obtain ⟨fu, rfl⟩ : ∃ k, fu = k + 1 := ⟨fu - 1, by omega⟩
    have e1 : IntKind.i64.wrap (b0 - a0) = ((b - a : Nat) : Int) := wN (by omega) (by omega)
    have e2 : IntKind.i64.wrap (Int.tdiv ((b - a : Nat) : Int) 4) = (((b - a) / 4 : Nat) : Int) := by
      rw [Int.tdiv_eq_ediv_of_nonneg (by omega)]
      exact wN (by omega) (by omega)
    have e3 : IntKind.i64.wrap ((((b - a) / 4 : Nat) : Int) * 2) = (((b - a) / 4 * 2 : Nat) : Int) := wN (by omega) (by omega)
    have e4 : IntKind.i64.wrap (a0 + (((b - a) / 4 * 2 : Nat) : Int)) = ((a + (b - a) / 4 * 2 : Nat) : Int) := wN (by omega) (by omega)
    have e5 : IntKind.i64.wrap (((a + (b - a) / 4 * 2 : Nat) : Int) + 1) = ((a + (b - a) / 4 * 2 + 1 : Nat) : Int) := wN (by omega) (by omega)
    obtain ⟨r, hr⟩ := xor_some x
    obtain ⟨t, et, ht⟩ := and_ok r.1 hm1 (by omega)
    have e6 : IntKind.i64.wrap (t : Int) = (t : Int) := wN rfl (by omega)
    have j6 : ∀ o : Nat, o < b - a → ∃ R : AI, m_slices_breakPatternsOrdered_uint32_j6 a0 r d.toList (y : Int) (fun y0_3 y7_d_3 y9_3 => m_slices_breakPatternsOrdered_uint32_l3 a0 b0 (m : Int) fu y0_3 y7_d_3 y9_3) (o : Int) = some R.toList ∧ PermIn a b d R := fun o ho => by
      have e7 : IntKind.i64.wrap (a0 + (o : Int)) = ((a + o : Nat) : Int) := wN (by omega) (by omega)
      obtain ⟨u, hu⟩ := gS (d := d) (x := d[a + o]!) (I := ((a + o : Nat) : Int)) (i := a + o) (j := y) rfl (by omega)
      unfold m_slices_breakPatternsOrdered_uint32_j6
      rw [e7, gA rfl (by omega), obind_some, gA rfl (by omega), obind_some, obind_some, tN rfl, hu, obind_some, tN rfl, sS, wN (n := (y : Int) + 1) (i := y + 1) (by omega) (by omega)]
      obtain ⟨R, h1, h2⟩ := ih (y + 1) fu (Go.Sort.swp d y (a + o)) r.2 (by omega) (by omega) (by omega) (by rw [swp_size]; exact hbd) (by rw [swp_size]; exact hs)
      exact ⟨R, h1, permIn_trans _ _ _ a b (swp_permIn d a b y (a + o) hy (by omega) (by omega) (by omega) hbd) h2⟩
    unfold m_slices_breakPatternsOrdered_uint32_l3
    rw [e1, e2, e3, e4, obind_some, e5, decide_eq_true (by omega), cond_true, hr, obind_some, et, obind_some, e6]
    by_cases hc : b - a ≤ t
    · rw [decide_eq_true (by omega), cond_true, wN (n := (t : Int) - ((b - a : Nat) : Int)) (i := t - (b - a)) (by omega) (by omega)]
      exact j6 _ (by omega)
    · rw [decide_eq_false (by omega), cond_false]
      exact j6 _ (by omega)
theorem bp_ok {a0 b0 : Int} {a b : Nat} (ha : a0 = a) (hb : b0 = b) (h12 : a + 12 < b) {d : AI} (hbd : b ≤ d.size) (hs : d.size ≤ 255) : ∃ R : AI, m_slices_breakPatternsOrdered_uint32 d.toList a0 b0 = some R.toList ∧ PermIn a b d R := by
  have e1 : IntKind.i64.wrap (b0 - a0) = ((b - a : Nat) : Int) := wN (by omega) (by omega)
  have e2 : IntKind.i64.wrap (Int.tdiv ((b - a : Nat) : Int) 4) = (((b - a) / 4 : Nat) : Int) := by
    rw [Int.tdiv_eq_ediv_of_nonneg (by omega)]
    exact wN (by omega) (by omega)
  have e3 : IntKind.i64.wrap ((((b - a) / 4 : Nat) : Int) * 2) = (((b - a) / 4 * 2 : Nat) : Int) := wN (by omega) (by omega)
  have e4 : IntKind.i64.wrap (a0 + (((b - a) / 4 * 2 : Nat) : Int)) = ((a + (b - a) / 4 * 2 : Nat) : Int) := wN (by omega) (by omega)
  have e5 : IntKind.i64.wrap (((a + (b - a) / 4 * 2 : Nat) : Int) - 1) = ((a + (b - a) / 4 * 2 - 1 : Nat) : Int) := wN (by omega) (by omega)
  obtain ⟨m, hm, h1, h2⟩ := np_ok (n := b - a) (by omega) (by omega)
  unfold m_slices_breakPatternsOrdered_uint32
  rw [e1, decide_eq_true (by omega), cond_true, hm, obind_some, e2, e3, e4, obind_some, e5]
  exact bp_l3 ha hb (by omega) h1 h2 _ _ _ d _ rfl (by omega) (by omega) hbd hs
def Sorts (a b : Nat) (d : AI) (o : Option (List Int)) : Prop := ∃ R : AI, o = some R.toList ∧ PermIn a b d R ∧ SortedIn ltInt a b R
theorem pdq_loop {krec : List Int → Int → Int → Int → Option (List Int)} {n : Nat} (hrec : ∀ (a b : Nat) (d : AI) (lim : Int), a ≤ b → b - a < n → b ≤ d.size → d.size ≤ 255 → Below ltInt a b d → Sorts a b d (krec d.toList a b lim)) :
    ∀ (k a b fu : Nat) (d : AI) (lim : Int) (wb wp : Bool), k ≤ n → b - a ≤ k → k < fu → a ≤ b → b ≤ d.size → d.size ≤ 255 → Below ltInt a b d → Sorts a b d (m_slices_pdqsortOrdered_uint32_l0 krec fu d.toList a b lim wb wp) := by
  intro k
  induction k with
  | zero =>
    intro a b fu d lim wb wp hkn hk hf hab hbd hs hB
    obtain ⟨fu, rfl⟩ : ∃ k, fu = k + 1 := ⟨fu - 1, by omega⟩
    unfold m_slices_pdqsortOrdered_uint32_l0
    rw [wN (n := (b : Int) - (a : Int)) (i := b - a) (by omega) (by omega), decide_eq_true (by omega), cond_true, ins_ok rfl rfl hab hbd (by omega), obind_some]
    obtain ⟨h1, h2⟩ := insertionSort_holds (lt := ltInt) swo_ltInt d a b hab hbd
    exact ⟨_, rfl, h1, h2⟩
  | succ k ih =>
    intro a b fu d lim wb wp hkn hk hf hab hbd hs hB
    obtain ⟨fu, rfl⟩ : ∃ k, fu = k + 1 := ⟨fu - 1, by omega⟩
    unfold m_slices_pdqsortOrdered_uint32_l0
    rw [wN (n := (b : Int) - (a : Int)) (i := b - a) (by omega) (by omega)]
    by_cases h12 : b - a ≤ 12
    · rw [decide_eq_true (by omega), cond_true, ins_ok rfl rfl hab hbd (by omega), obind_some]
      obtain ⟨h1, h2⟩ := insertionSort_holds (lt := ltInt) swo_ltInt d a b hab hbd
      exact ⟨_, rfl, h1, h2⟩
    rw [decide_eq_false (by omega), cond_false]
    by_cases hl0 : lim = 0
    · rw [decide_eq_true hl0, cond_true, heap_ok rfl rfl (by omega) hbd (by omega), obind_some]
      obtain ⟨h1, h2⟩ := heapSort_holds (lt := ltInt) swo_ltInt d a b hab hbd
      exact ⟨_, rfl, h1, h2⟩
    rw [decide_eq_false hl0, cond_false]
    have j10 : ∀ (d3 : AI) (pv : Nat) (l3 : Int), PermIn a b d d3 → a ≤ pv → pv < b → Sorts a b d (m_slices_pdqsortOrdered_uint32_j10 d3.toList (pv : Int) (a : Int) (b : Int) l3 (fun y0_0 y1_0 y2_0 y3_0 y8_0 y9_0 => m_slices_pdqsortOrdered_uint32_l0 krec fu y0_0 y1_0 y2_0 y3_0 y8_0 y9_0) krec) := fun d3 pv l3 hP hp1 hp2 => by
      have hb3 : b ≤ d3.size := by rw [hP.1]; exact hbd
      have hs3 : d3.size ≤ 255 := by rw [hP.1]; exact hs
      have hB3 := hB.perm hbd hP
      unfold m_slices_pdqsortOrdered_uint32_j10
      rw [part_ok rfl rfl rfl hp1 hp2 hb3 (by omega), obind_some]
      rcases hx : partition ltInt d3 a b pv with ⟨mid, ap, d4⟩
      obtain ⟨g1, g2, g3, g4, g5, g6, g7⟩ := round_part (lt := ltInt) swo_ltInt (partition_holds ltInt) hp1 hp2 hb3 hB3 hx
      simp only []
      rw [wN (n := (mid : Int) - (a : Int)) (i := mid - a) (by omega) (by omega), wN (n := (b : Int) - (mid : Int)) (i := b - mid) (by omega) (by omega)]
      by_cases hlt : mid - a < b - mid
      · rw [d_lt (by omega), cond_true, obind_some]
        obtain ⟨L, e1, p1, s1⟩ := hrec a mid d4 l3 g1 (by omega) (by omega) (by omega) g4
        obtain ⟨hBL, fin⟩ := g6 L p1 s1
        have hLs : L.size = d4.size := p1.1
        rw [e1, obind_some, wN (n := (mid : Int) + 1) (i := mid + 1) (by omega) (by omega)]
        obtain ⟨R, e2, p2, s2⟩ := ih (mid + 1) b fu L l3 _ ap (by omega) (by omega) (by omega) (by omega) (by omega) (by omega) hBL
        obtain ⟨q1, q2⟩ := fin R p2 s2
        exact ⟨R, e2, permIn_trans _ _ _ a b hP q1, q2⟩
      · rw [d_nlt (by omega), cond_false, obind_some, wN (n := (mid : Int) + 1) (i := mid + 1) (by omega) (by omega)]
        obtain ⟨L, e1, p1, s1⟩ := hrec (mid + 1) b d4 l3 (by omega) (by omega) (by omega) (by omega) g5
        obtain ⟨hBL, fin⟩ := g7 L p1 s1
        have hLs : L.size = d4.size := p1.1
        rw [e1, obind_some]
        obtain ⟨R, e2, p2, s2⟩ := ih a mid fu L l3 _ ap (by omega) (by omega) (by omega) g1 (by omega) (by omega) hBL
        obtain ⟨q1, q2⟩ := fin R p2 s2
        exact ⟨R, e2, permIn_trans _ _ _ a b hP q1, q2⟩
    have j7 : ∀ (d3 : AI) (pv : Nat) (l3 : Int), PermIn a b d d3 → a ≤ pv → pv < b → Sorts a b d (m_slices_pdqsortOrdered_uint32_j7 (pv : Int) (a : Int) (b : Int) l3 wb wp (fun y0_0 y1_0 y2_0 y3_0 y8_0 y9_0 => m_slices_pdqsortOrdered_uint32_l0 krec fu y0_0 y1_0 y2_0 y3_0 y8_0 y9_0) krec d3.toList) := fun d3 pv l3 hP hp1 hp2 => by
      have hb3 : b ≤ d3.size := by rw [hP.1]; exact hbd
      have hs3 : d3.size ≤ 255 := by rw [hP.1]; exact hs
      have hB3 := hB.perm hbd hP
      unfold m_slices_pdqsortOrdered_uint32_j7
      by_cases ha0 : 0 < a
      · rw [d_lt (by omega), cond_true, wN (n := (a : Int) - 1) (i := a - 1) (by omega) (by omega), gA rfl (by omega), obind_some, gA rfl (by omega), obind_some, less_ok, obind_some]
        cases hlt : ltInt d3[a - 1]! d3[pv]! with
        | false =>
          rw [Bool.not_false, cond_true, pe_ok rfl rfl rfl hp1 hp2 hb3 (by omega), obind_some]
          rcases hx : partitionEqual ltInt d3 a b pv with ⟨mid, d4⟩
          obtain ⟨g1, g2, g3, g4, fin⟩ := round_eq (lt := ltInt) swo_ltInt (partitionEqual_holds ltInt) ha0 hp1 hp2 hb3 hB3 hlt hx
          obtain ⟨R, e2, p2, s2⟩ := ih mid b fu d4 l3 wb wp (by omega) (by omega) (by omega) g2 (by omega) (by omega) g4
          obtain ⟨q1, q2⟩ := fin R p2 s2
          exact ⟨R, e2, permIn_trans _ _ _ a b hP q1, q2⟩
        | true => rw [Bool.not_true, cond_false]; exact j10 d3 pv l3 hP hp1 hp2
      · rw [d_nlt (by omega), cond_false]; exact j10 d3 pv l3 hP hp1 hp2
    have j5 : ∀ (d2 : AI) (pv : Nat) (l3 hint : Int), PermIn a b d d2 → a ≤ pv → pv < b → Sorts a b d (m_slices_pdqsortOrdered_uint32_j5 (a : Int) (b : Int) l3 wb wp (fun y0_0 y1_0 y2_0 y3_0 y8_0 y9_0 => m_slices_pdqsortOrdered_uint32_l0 krec fu y0_0 y1_0 y2_0 y3_0 y8_0 y9_0) krec d2.toList (pv : Int) hint) := fun d2 pv l3 hint hP hp1 hp2 => by
      have hb2 : b ≤ d2.size := by rw [hP.1]; exact hbd
      have hs2 : d2.size ≤ 255 := by rw [hP.1]; exact hs
      have hj7 := j7 d2 pv l3 hP hp1 hp2
      unfold m_slices_pdqsortOrdered_uint32_j5 m_slices_pdqsortOrdered_uint32_j17
      cases wb with
      | false => rw [cond_false]; exact hj7
      | true =>
        rw [cond_true]
        cases wp with
        | false => rw [cond_false]; exact hj7
        | true =>
          rw [cond_true]
          by_cases h1 : hint = 1
          · rw [decide_eq_true h1, cond_true, ps_ok rfl rfl (by omega) hb2 (by omega), obind_some]
            obtain ⟨q1, q2⟩ := partialInsertionSort_holds (lt := ltInt) swo_ltInt d2 a b (by omega) hb2 (hB.perm hbd hP)
            rcases hx : partialInsertionSort ltInt d2 a b with ⟨d3, f⟩
            rw [hx] at q1 q2
            simp only [] at q1 q2 ⊢
            cases f with
            | true => rw [cond_true]; exact ⟨d3, rfl, permIn_trans _ _ _ a b hP q1, q2 rfl⟩
            | false => rw [cond_false]; exact j7 d3 pv l3 (permIn_trans _ _ _ a b hP q1) hp1 hp2
          · rw [decide_eq_false h1, cond_false]; exact hj7
    have j15 : ∀ (d1 : AI) (l3 : Int), PermIn a b d d1 → Sorts a b d (m_slices_pdqsortOrdered_uint32_j15 (a : Int) (b : Int) wb wp (fun y0_0 y1_0 y2_0 y3_0 y8_0 y9_0 => m_slices_pdqsortOrdered_uint32_l0 krec fu y0_0 y1_0 y2_0 y3_0 y8_0 y9_0) krec d1.toList l3) := fun d1 l3 hP => by
      have hb1 : b ≤ d1.size := by rw [hP.1]; exact hbd
      have hs1 : d1.size ≤ 255 := by rw [hP.1]; exact hs
      obtain ⟨x, hh, e1, x1, x2⟩ := cp_ok (a0 := (a : Int)) (b0 := (b : Int)) rfl rfl (by omega) hb1 (by omega)
      unfold m_slices_pdqsortOrdered_uint32_j15
      rw [e1, obind_some]
      by_cases h2 : hh = 2
      · rw [decide_eq_true h2, cond_true, rev_ok rfl rfl (by omega) hb1 (by omega), obind_some, wN (n := (b : Int) - 1) (i := b - 1) (by omega) (by omega), wN (n := (x : Int) - (a : Int)) (i := x - a) (by omega) (by omega), wN (n := ((b - 1 : Nat) : Int) - ((x - a : Nat) : Int)) (i := b - 1 - (x - a)) (by omega) (by omega)]
        exact j5 _ _ _ _ (permIn_trans _ _ _ a b hP (reverseRange_holds d1 a b hab hb1)) (by omega) (by omega)
      · rw [decide_eq_false h2, cond_false]; exact j5 d1 x l3 hh hP x1 x2
    cases wb with
    | true => rw [Bool.not_true, cond_false]; exact j15 d lim (permIn_refl _ _ _)
    | false =>
      rw [Bool.not_false, cond_true]
      obtain ⟨d1, e1, p1⟩ := bp_ok (a0 := (a : Int)) (b0 := (b : Int)) rfl rfl (by omega) hbd hs
      rw [e1, obind_some]
      exact j15 d1 _ p1
theorem pdq_ok : ∀ (n fuR a b : Nat) (d : AI) (lim : Int), n < fuR → a ≤ b → b - a ≤ n → b ≤ d.size → d.size ≤ 255 → Below ltInt a b d → Sorts a b d (m_slices_pdqsortOrdered_uint32 fuR d.toList a b lim) := by
  intro n
  induction n with
  | zero =>
    intro fuR a b d lim hf hab hn hbd hs hB
    obtain ⟨fuR, rfl⟩ : ∃ k, fuR = k + 1 := ⟨fuR - 1, by omega⟩
    unfold m_slices_pdqsortOrdered_uint32
    exact pdq_loop (n := 0) (fun a b d lim h1 h2 => by omega) 0 a b _ d lim true true (Nat.le_refl _) hn (by omega) hab hbd hs hB
  | succ n ih =>
    intro fuR a b d lim hf hab hn hbd hs hB
    obtain ⟨fuR, rfl⟩ : ∃ k, fuR = k + 1 := ⟨fuR - 1, by omega⟩
    unfold m_slices_pdqsortOrdered_uint32
    exact pdq_loop (n := n + 1) (fun a b d lim h1 h2 h3 h4 h5 => ih fuR a b d lim (by omega) h1 (by omega) h3 h4 h5) (b - a) a b _ d lim true true hn (Nat.le_refl _) (by omega) hab hbd hs hB
def blchk (n : Nat) : Bool := (m_math_bits_Len (IntKind.u64.wrap (n : Int))).isSome
theorem bl_all : ∀ n : Fin 256, blchk n.val = true := by decide +kernel
def Sorted (l : List Int) : Prop := l.Pairwise (· ≤ ·)
theorem sort32_ok {l : List Int} (h : l.length ≤ 255) : ∃ r, m_slices_Sort_uint32 l = some r ∧ r.Perm l ∧ Sorted r := by
  obtain ⟨k, hk⟩ := Option.isSome_iff_exists.1 (show (m_math_bits_Len (IntKind.u64.wrap ((l.length : Nat) : Int))).isSome = true from bl_all ⟨l.length, by omega⟩)
  unfold m_slices_Sort_uint32
  rw [hk, obind_some]
  obtain ⟨R, e, hp, hs⟩ := pdq_ok l.length 1152921504606846976 0 l.length l.toArray k (by omega) (Nat.zero_le _) (by omega) (by simp) (by simpa using h) (.inl rfl)
  have e' : m_slices_pdqsortOrdered_uint32 1152921504606846976 l 0 ((List.length l : Nat) : Int) k = some R.toList := e
  rw [e', obind_some]
  refine ⟨R.toList, rfl, ?_, ?_⟩
  · have h2 := hp.2.2
    have z : R.size = l.length := by rw [hp.1]; simp
    rw [show l.length = R.size from z.symm, Array.extract_size] at h2
    rw [z] at h2
    simpa using h2
  · have z : R.size = l.length := by rw [hp.1]; simp
    unfold Sorted
    rw [List.pairwise_iff_getElem]
    intro i j hi hj hij
    have h3 := hs i j (Nat.zero_le _) hij (by simp at hj; omega)
    simp only [Array.length_toList] at hi hj
    rw [getElem!_pos R j hj, getElem!_pos R i hi] at h3
    simp only [ltInt, decide_eq_false_iff_not, Int.not_lt] at h3
    simpa using h3
end Go.Proofs.Ytelhmhmgaaebpaa.K

namespace Go.Proofs.Ytelhmhmgaaebpaa.K
open Go.RowKit Go.Lib
theorem awk22 : m_w22_awake = some true := by decide +kernel
def Strict (l : List Int) : Prop := l.Pairwise (· < ·)
theorem strict_ext : ∀ {a b : List Int}, Strict a → Strict b → (∀ x, x ∈ a ↔ x ∈ b) → a = b
  | [], [], _, _, _ => rfl
  | [], y :: b, _, _, h => by have := (h y).2 (by simp); simp at this
  | x :: a, [], _, _, h => by have := (h x).1 (by simp); simp at this
  | x :: a, y :: b, ha, hb, h => by
    have ha' := List.pairwise_cons.1 ha
    have hb' := List.pairwise_cons.1 hb
    have hxy : x = y := by
      rcases List.mem_cons.1 ((h x).1 (by simp)) with e | e
      · exact e
      · rcases List.mem_cons.1 ((h y).2 (by simp)) with e' | e'
        · exact e'.symm
        · have := hb'.1 x e
          have := ha'.1 y e'
          omega
    subst hxy
    congr 1
    refine strict_ext ha'.2 hb'.2 fun z => ?_
    constructor
    · intro hz
      have := ha'.1 z hz
      rcases List.mem_cons.1 ((h z).1 (by simp [hz])) with e | e
      · omega
      · exact e
    · intro hz
      have := hb'.1 z hz
      rcases List.mem_cons.1 ((h z).2 (by simp [hz])) with e | e
      · omega
      · exact e
/-! ### Compact -/
def dstep (acc : List Int) (x : Int) : List Int := if acc.getLast? = some x then acc else acc ++ [x]
def dd (l : List Int) : List Int := l.foldl dstep []
theorem dd_snoc (l : List Int) (x : Int) : dd (l ++ [x]) = dstep (dd l) x := by simp [dd]
theorem snoc_cases (l : List Int) : l = [] ∨ ∃ r x, l = r ++ [x] := by
  cases h : l with
  | nil => exact .inl rfl
  | cons a t => exact .inr ⟨(a :: t).dropLast, (a :: t).getLast (by simp), (List.dropLast_concat_getLast (by simp)).symm⟩
theorem dd_last : ∀ (n : Nat) (l : List Int), l.length = n → (dd l).getLast? = l.getLast?
  | 0, l, h => by rw [List.eq_nil_of_length_eq_zero h]; rfl
  | n + 1, l, h => by
    rcases snoc_cases l with rfl | ⟨r, x, rfl⟩
    · simp at h
    · rw [dd_snoc]
      unfold dstep
      split
      · rename_i e; rw [e]; simp
      · simp
theorem dd_len : ∀ (n : Nat) (l : List Int), l.length = n → (dd l).length ≤ l.length
  | 0, l, h => by rw [List.eq_nil_of_length_eq_zero h]; simp [dd]
  | n + 1, l, h => by
    rcases snoc_cases l with rfl | ⟨r, x, rfl⟩
    · simp at h
    · rw [dd_snoc]
      have := dd_len n r (by simpa using h)
      unfold dstep
      split <;> simp <;> omega
theorem dd_spec : ∀ (n : Nat) (l : List Int), l.length = n → Sorted l → Strict (dd l) ∧ (∀ y, y ∈ dd l ↔ y ∈ l)
  | 0, l, h, _ => by rw [List.eq_nil_of_length_eq_zero h]; exact ⟨List.Pairwise.nil, fun y => Iff.rfl⟩
  | n + 1, l, h, hs => by
    rcases snoc_cases l with rfl | ⟨r, x, rfl⟩
    · simp at h
    · have hs' := List.pairwise_append.1 hs
      obtain ⟨h1, h2⟩ := dd_spec n r (by simpa using h) hs'.1
      have hl := dd_last _ r rfl
      rw [dd_snoc]
      unfold dstep
      split
      · rename_i e
        refine ⟨h1, fun y => ?_⟩
        rw [h2, List.mem_append]
        constructor
        · intro h; exact .inl h
        · rintro (h | h)
          · exact h
          · simp at h; subst h
            rw [hl] at e
            exact List.mem_of_getLast? e
      · rename_i e
        refine ⟨?_, fun y => ?_⟩
        · refine List.pairwise_append.2 ⟨h1, by simp, fun a ha b hb => ?_⟩
          simp at hb; subst hb
          have hle := hs'.2.2 a ((h2 a).1 ha) b (by simp)
          rcases Int.lt_or_eq_of_le hle with h | h
          · exact h
          · exfalso
            subst h
            -- a is the greatest one of r, and so its last one
            rcases snoc_cases r with rfl | ⟨r', z, rfl⟩
            · simp [dd] at ha
            · have hz : z = a := by
                have h3 := hs'.2.2 z (by simp) a (by simp)
                have h4 := List.pairwise_append.1 hs'.1
                rcases List.mem_append.1 ((h2 a).1 ha) with h5 | h5
                · have := h4.2.2 a h5 z (by simp); omega
                · rw [List.mem_singleton] at h5; exact h5.symm
              exact e (by rw [hl]; simp [hz])
        · rw [List.mem_append, h2, List.mem_append]
theorem take_last {l : List Int} {i : Nat} (h1 : 1 ≤ i) (h2 : i ≤ l.length) : (l.take i).getLast? = some (l[i - 1]'(by omega)) := by
  obtain ⟨j, rfl⟩ : ∃ j, i = j + 1 := ⟨i - 1, by omega⟩
  rw [take_snoc (by omega), List.getLast?_concat]
  rfl
theorem comp_l5 {p0 : List Int} {k : Nat} (hk : k < p0.length) (hl : p0.length ≤ 1000000) : ∀ (n i m fu : Nat) (y : List Int), p0.length - k - m = n → n < fu → 1 ≤ m → m ≤ p0.length - k → k ≤ i → i + 1 ≤ k + m → y.length = p0.length → (∀ t, i ≤ t → y[t]? = p0[t]?) → y.take i = dd (p0.take (k + m)) →
    m_slices_Compact_uint32_l5 p0 (k : Int) fu y (i : Int) (m : Int) = some (dd p0) := by
  intro n
  induction n with
  | zero =>
    intro i m fu y hn hf h1 h2 h3 h4 hy hge ht
    obtain ⟨fu, rfl⟩ : ∃ k, fu = k + 1 := ⟨fu - 1, by omega⟩
    have hcut := cut_ok (l := clr y (Int.toNat (i : Int)) (0 : Int)) (a := 0) (b := i) (Nat.zero_le _) (by rw [Int.toNat_natCast, clr_len (by omega)]; omega)
    unfold m_slices_Compact_uint32_l5
    rw [Int.toNat_natCast] at hcut ⊢
    rw [d_nlt (by omega), cond_false, chk_ok (by omega)]
    have e0 : cut (clr y i 0) 0 (i : Int) = some ((clr y i 0).take i) := by simpa using hcut
    rw [Int.toNat_natCast, e0, obind_some]
    congr 1
    have : (clr y i 0).take i = y.take i := by
      unfold clr
      exact List.take_left' (by rw [List.length_take]; omega)
    rw [this, ht, show k + m = p0.length by omega, List.take_length]
  | succ n ih =>
    intro i m fu y hn hf h1 h2 h3 h4 hy hge ht
    obtain ⟨fu, rfl⟩ : ∃ k, fu = k + 1 := ⟨fu - 1, by omega⟩
    have hm : k + m < p0.length := by omega
    have hg : ∀ t, i ≤ t → t < p0.length → geti y (t : Int) = p0[t]? := fun t h5 h6 => by rw [geti_nat, hge t h5]
    have ew : IntKind.i64.wrap ((m : Int) - 1) = ((m - 1 : Nat) : Int) := by rw [w64 (by omega) (by omega)]; omega
    have ea : (k : Int) + (m : Int) = ((k + m : Nat) : Int) := by omega
    have eb : (k : Int) + ((m - 1 : Nat) : Int) = ((k + m - 1 : Nat) : Int) := by omega
    have hsn : dd (p0.take (k + m + 1)) = dstep (dd (p0.take (k + m))) p0[k + m] := by rw [take_snoc hm, dd_snoc]
    have hlast : (dd (p0.take (k + m))).getLast? = some (p0[k + m - 1]'(by omega)) := by rw [dd_last _ _ rfl, take_last (by omega) (by omega)]
    unfold m_slices_Compact_uint32_l5
    rw [Int.toNat_natCast, d_lt (by omega), cond_true, chk_ok (by omega), ea, hg (k + m) (by omega) hm, List.getElem?_eq_getElem hm, obind_some, ew, chk_ok (by omega), eb, hg (k + m - 1) (by omega) (by omega), List.getElem?_eq_getElem (by omega), obind_some, inc_ok (i := m) (by omega)]
    by_cases hne : p0[k + m] ≠ p0[k + m - 1]'(by omega)
    · rw [decide_eq_true hne, cond_true, chk_ok (by omega), obind_some, geti_nat, List.getElem?_eq_getElem (show i < y.length by omega), obind_some, inc_ok (i := i) (by omega), Int.toNat_natCast]
      refine ih (i + 1) (m + 1) fu (y.set i p0[k + m]) (by omega) (by omega) (by omega) (by omega) (by omega) (by omega) (by rw [List.length_set]; exact hy) (fun t h5 => by rw [List.getElem?_set_ne (by omega)]; exact hge t (by omega)) ?_
      rw [show k + (m + 1) = k + m + 1 by omega, hsn]
      unfold dstep
      rw [hlast, if_neg (by intro e; exact hne (Option.some.inj e).symm), ← ht, take_snoc (by rw [List.length_set]; omega), List.getElem_set_self, List.take_set_of_le (Nat.le_refl _)]
    · have he := Classical.not_not.1 hne
      rw [decide_eq_false hne, cond_false]
      refine ih i (m + 1) fu y (by omega) (by omega) (by omega) (by omega) h3 (by omega) hy hge ?_
      rw [show k + (m + 1) = k + m + 1 by omega, hsn]
      unfold dstep
      rw [hlast, if_pos (by rw [he]), ht]
theorem comp_l1 {p0 : List Int} (hl : p0.length ≤ 1000000) : ∀ (n k fu : Nat), p0.length - k = n → n < fu → 1 ≤ k → k ≤ p0.length → dd (p0.take k) = p0.take k → m_slices_Compact_uint32_l1 p0 fu (k : Int) = some (dd p0) := by
  intro n
  induction n with
  | zero =>
    intro k fu hn hf h1 h2 hd
    obtain ⟨fu, rfl⟩ : ∃ k, fu = k + 1 := ⟨fu - 1, by omega⟩
    unfold m_slices_Compact_uint32_l1
    rw [d_nlt (by omega), cond_false]
    rw [show k = p0.length by omega, List.take_length] at hd
    rw [hd]
  | succ n ih =>
    intro k fu hn hf h1 h2 hd
    obtain ⟨fu, rfl⟩ : ∃ k, fu = k + 1 := ⟨fu - 1, by omega⟩
    have hk : k < p0.length := by omega
    have ew : IntKind.i64.wrap ((k : Int) - 1) = ((k - 1 : Nat) : Int) := by rw [w64 (by omega) (by omega)]; omega
    have hsn : dd (p0.take (k + 1)) = dstep (p0.take k) p0[k] := by rw [take_snoc hk, dd_snoc, hd]
    have hlast := take_last (l := p0) h1 (by omega)
    unfold m_slices_Compact_uint32_l1
    rw [d_lt (by omega), cond_true, geti_lt hk, obind_some, ew, geti_lt (by omega), obind_some]
    by_cases he : p0[k] = p0[k - 1]'(by omega)
    · rw [decide_eq_true he, cond_true, chk_ok (by omega)]
      refine comp_l5 hk hl _ k 1 _ p0 rfl (by omega) (Nat.le_refl _) (by omega) (Nat.le_refl _) (by omega) rfl (fun _ _ => rfl) ?_
      rw [hsn]
      unfold dstep
      rw [hlast, if_pos (by rw [he])]
    · rw [decide_eq_false he, cond_false, inc_ok (by omega)]
      refine ih (k + 1) fu (by omega) (by omega) (by omega) (by omega) ?_
      rw [hsn]
      unfold dstep
      rw [hlast, if_neg (by intro e; exact he (Option.some.inj e).symm), take_snoc hk]
theorem comp_ok {l : List Int} (hl : l.length ≤ 1000000) : m_slices_Compact_uint32 l = some (dd l) := by
  unfold m_slices_Compact_uint32
  by_cases h : l.length < 2
  · rw [d_lt (by omega), cond_true]
    match l, h with
    | [], _ => rfl
    | [x], _ => rfl
  · rw [d_nlt (by omega), cond_false]
    refine comp_l1 hl _ 1 _ rfl (by omega) (Nat.le_refl _) (by omega) ?_
    match l, h with
    | [], h => exact absurd (by simp) h
    | [x], h => exact absurd (by simp) h
    | x :: y :: t, _ => rfl
end Go.Proofs.Ytelhmhmgaaebpaa.K

namespace Go.Proofs.Ytelhmhmgaaebpaa.K
open Go.RowKit Go.Lib
theorem grow_ok {n : Nat} (h : n ≤ 1000000) : m_slices_Grow_uint32 (n : Int) = some [] := by
  unfold m_slices_Grow_uint32
  have e : IntKind.i64.wrap ((n : Int) - 0) = (n : Int) := by rw [w64 (by omega) (by omega)]; omega
  rw [d_nlt (by omega), cond_false, e]
  by_cases h0 : 0 < n
  · rw [d_lt (by omega), cond_true, show mkl (n : Int) (0 : Int) = some (List.replicate n 0) by unfold mkl; rw [if_pos (by omega)]; simp, obind_some, chk_ok (by omega)]
    have := cut_ok (l := List.replicate n (0 : Int)) (a := 0) (b := 0) (Nat.le_refl _) (Nat.zero_le _)
    have e0 : cut (List.replicate n (0 : Int)) 0 0 = some [] := by simpa using this
    rw [e0]; rfl
  · rw [d_nlt (by omega), cond_false]
theorem concat_ok {a b : List Int} (ha : a.length ≤ 400000) (hb : b.length ≤ 400000) : m_slices_Concat_uint32 [a, b] = some (a ++ b) := by
  unfold m_slices_Concat_uint32
  show m_slices_Concat_uint32_l1 [a, b] (1152921504606846973 + 1 + 1 + 1) 0 0 = _
  have e1 : IntKind.i64.wrap (0 + 1) = 1 := w64 (by omega) (by omega)
  have e2 : IntKind.i64.wrap (1 + 1) = 2 := w64 (by omega) (by omega)
  have e3 : IntKind.i64.wrap (0 + ((List.length a : Nat) : Int)) = ((List.length a : Nat) : Int) := by rw [w64 (by omega) (by omega)]; omega
  have e4 : IntKind.i64.wrap (((List.length a : Nat) : Int) + ((List.length b : Nat) : Int)) = ((List.length a + List.length b : Nat) : Int) := by rw [w64 (by omega) (by omega)]; omega
  unfold m_slices_Concat_uint32_l1
  rw [decide_eq_true (by simp), cond_true, show geti [a, b] 0 = some a from rfl, obind_some, e3, d_nlt (by omega), cond_false, e1]
  unfold m_slices_Concat_uint32_l1
  rw [decide_eq_true (by simp), cond_true, show geti [a, b] 1 = some b from rfl, obind_some, e4, d_nlt (by omega), cond_false, e2]
  unfold m_slices_Concat_uint32_l1
  rw [decide_eq_false (by simp), cond_false, grow_ok (by omega), obind_some]
  show m_slices_Concat_uint32_l6 [a, b] (1152921504606846973 + 1 + 1 + 1) [] 0 = _
  unfold m_slices_Concat_uint32_l6
  rw [decide_eq_true (by simp), cond_true, show geti [a, b] 0 = some a from rfl, obind_some, app_ok (by simp; omega), obind_some, List.nil_append, e1]
  unfold m_slices_Concat_uint32_l6
  rw [decide_eq_true (by simp), cond_true, show geti [a, b] 1 = some b from rfl, obind_some, app_ok (by omega), obind_some, e2]
  unfold m_slices_Concat_uint32_l6
  rw [decide_eq_false (by simp), cond_false]
/-- What a merge is: strictly rising, with the numbers of both. -/
structure IsMerge (a b r : List Int) : Prop where
  strict : Strict r
  mem : ∀ x, x ∈ r ↔ x ∈ a ∨ x ∈ b
  len : r.length ≤ a.length + b.length
theorem merge_ok {a b : List Int} (h : a.length + b.length ≤ 255) : ∃ r, m_trail_Merge a b = some r ∧ IsMerge a b r := by
  unfold m_trail_Merge
  rw [concat_ok (by omega) (by omega), obind_some]
  obtain ⟨s, e, hp, hs⟩ := sort32_ok (l := a ++ b) (by rw [List.length_append]; exact h)
  have hl := hp.length_eq
  rw [List.length_append] at hl
  rw [e, obind_some, comp_ok (by omega), obind_some]
  obtain ⟨h1, h2⟩ := dd_spec _ s rfl hs
  exact ⟨_, rfl, h1, fun x => by rw [h2, hp.mem_iff, List.mem_append], by have := dd_len _ s rfl; omega⟩
/-! ### the document's -/
def insI : List Int → Int → List Int
  | [], x => [x]
  | y :: l, x => if y < x then y :: insI l x else if y = x then y :: l else x :: y :: l
theorem insI_mem : ∀ (l : List Int) (x z : Int), z ∈ insI l x ↔ z = x ∨ z ∈ l
  | [], x, z => by simp [insI]
  | y :: l, x, z => by
    unfold insI
    split
    · rw [List.mem_cons, insI_mem l x z, List.mem_cons]
      constructor
      · rintro (h | h | h)
        · exact .inr (.inl h)
        · exact .inl h
        · exact .inr (.inr h)
      · rintro (h | h | h)
        · exact .inr (.inl h)
        · exact .inl h
        · exact .inr (.inr h)
    · split
      · rename_i h; subst h
        rw [List.mem_cons]
        constructor
        · intro h; exact .inr h
        · rintro (h | h)
          · exact .inl h
          · exact h
      · rw [List.mem_cons]
theorem insI_strict : ∀ {l : List Int} (x : Int), Strict l → Strict (insI l x)
  | [], x, _ => List.pairwise_singleton _ _
  | y :: l, x, h => by
    have h' := List.pairwise_cons.1 h
    unfold insI
    split
    · rename_i hy
      refine List.pairwise_cons.2 ⟨fun z hz => ?_, insI_strict x h'.2⟩
      rcases (insI_mem l x z).1 hz with rfl | hz
      · exact hy
      · exact h'.1 z hz
    · split
      · exact h
      · refine List.pairwise_cons.2 ⟨fun z hz => ?_, h⟩
        rcases List.mem_cons.1 hz with rfl | hz
        · omega
        · have := h'.1 z hz; omega
theorem insI_len : ∀ (l : List Int) (x : Int), (insI l x).length ≤ l.length + 1
  | [], x => by simp [insI]
  | y :: l, x => by
    have := insI_len l x
    unfold insI
    split
    · simp; omega
    · split <;> simp
/-- Where it goes. -/
theorem insI_at : ∀ (l : List Int) (x : Int) (i : Nat), i ≤ l.length → (∀ t (ht : t < l.length), t < i → l[t] < x) → (∀ ht : i < l.length, ¬ l[i] < x) → insI l x = l.take i ++ ((if l[i]? = some x then [] else [x]) ++ l.drop i)
  | [], x, i, hi, _, _ => by simp [insI]
  | y :: l, x, 0, _, _, h2 => by
    have := h2 (by simp)
    simp only [List.getElem_cons_zero] at this
    unfold insI
    rw [if_neg this]
    by_cases e : y = x
    · rw [if_pos e]; simp [e]
    · rw [if_neg e]; simp [e]
  | y :: l, x, i + 1, hi, h1, h2 => by
    have hy := h1 0 (by simp) (by omega)
    simp only [List.getElem_cons_zero] at hy
    have ih := insI_at l x i (by simpa using hi) (fun t ht hti => by have := h1 (t + 1) (by simp; omega) (by omega); simpa using this) (fun ht => by have := h2 (by simp; omega); simpa using this)
    unfold insI
    rw [if_pos hy, ih]
    simp
theorem into_j2 {l : List Int} {x : Int} {i : Nat} (hi : i ≤ l.length) (hl : l.length ≤ 1000000) : m_r22_into_j2 l x (i : Int) = some (l.take i ++ ((if l[i]? = some x then [] else [x]) ++ l.drop i)) := by
  have c1 : cut l 0 (i : Int) = some (l.take i) := by have := cut_ok (l := l) (Nat.zero_le i) hi; simpa using this
  have c2 : cut l (i : Int) ((List.length l : Nat) : Int) = some (l.drop i) := by
    rw [cut_ok hi (Nat.le_refl _), List.take_of_length_le (by rw [List.length_drop]; omega)]
  unfold m_r22_into_j2 m_r22_into_j7
  rw [c1, obind_some, app_ok (by simp; omega), obind_some, List.nil_append]
  by_cases h : i = l.length
  · rw [decide_eq_true (by omega), cond_true, app_ok (by simp; omega), obind_some, c2, obind_some, app_ok (by simp; omega), obind_some, List.getElem?_eq_none (by omega), if_neg (by simp), List.append_assoc]
  · rw [decide_eq_false (by omega), cond_false, geti_lt (by omega), obind_some, List.getElem?_eq_getElem (by omega)]
    by_cases hx : l[i]'(by omega) = x
    · rw [decide_eq_false (by simpa using hx), cond_false, c2, obind_some, app_ok (by simp; omega), obind_some, if_pos (by rw [hx])]; rfl
    · rw [decide_eq_true hx, cond_true, app_ok (by simp; omega), obind_some, c2, obind_some, app_ok (by simp; omega), obind_some, if_neg (by intro e; exact hx (Option.some.inj e)), List.append_assoc]
theorem into_ok {l : List Int} {x : Int} (hl : l.length ≤ 1000000) : m_r22_into l x = some (insI l x) := by
  unfold m_r22_into
  have key := loop1_0 (L := fun fu i => m_r22_into_l0 l x fu i) (n := l.length) (P := fun i o => (∀ t (ht : t < l.length), t < i → l[t] < x) → o = some (insI l x)) (by omega)
    (fun fu h => by
      unfold m_r22_into_l0
      rw [d_nlt (by omega), cond_false, into_j2 (Nat.le_refl _) hl, insI_at l x l.length (Nat.le_refl _) h (fun ht => by omega)])
    (fun fu i hi ih h => by
      unfold m_r22_into_l0
      rw [d_lt (by omega), cond_true, geti_lt hi, obind_some]
      by_cases hx : l[i] < x
      · rw [d_lt hx, cond_true, inc_ok (by omega)]
        exact ih fun t ht hti => by
          by_cases e : t = i
          · subst e; exact hx
          · exact h t ht (by omega)
      · rw [d_nlt hx, cond_false, into_j2 (by omega) hl, insI_at l x i (by omega) h (fun _ => hx)])
  exact key fun t ht h => by omega
def insAll (s l : List Int) : List Int := l.foldl insI s
theorem insAll_mem : ∀ (l s : List Int) (z : Int), z ∈ insAll s l ↔ z ∈ s ∨ z ∈ l
  | [], s, z => by simp [insAll]
  | x :: l, s, z => by
    show z ∈ insAll (insI s x) l ↔ _
    rw [insAll_mem l, insI_mem, List.mem_cons]
    constructor
    · rintro ((h | h) | h)
      · exact .inr (.inl h)
      · exact .inl h
      · exact .inr (.inr h)
    · rintro (h | h | h)
      · exact .inl (.inr h)
      · exact .inl (.inl h)
      · exact .inr h
theorem insAll_strict : ∀ (l : List Int) {s : List Int}, Strict s → Strict (insAll s l)
  | [], s, h => h
  | x :: l, s, h => insAll_strict l (insI_strict x h)
theorem rmerge_l3 {b : List Int} (hb : b.length ≤ 100000) : ∀ (n i fu : Nat) (s : List Int), i + n = b.length → n < fu → s.length ≤ 500000 + i → m_r22_Merge_l3 b fu s (i : Int) = some (insAll s (b.drop i))
  | 0, i, fu, s, hi, hf, hs => by
    obtain ⟨fu, rfl⟩ : ∃ k, fu = k + 1 := ⟨fu - 1, by omega⟩
    unfold m_r22_Merge_l3
    rw [d_nlt (by omega), cond_false, List.drop_of_length_le (by omega)]; rfl
  | n + 1, i, fu, s, hi, hf, hs => by
    obtain ⟨fu, rfl⟩ : ∃ k, fu = k + 1 := ⟨fu - 1, by omega⟩
    have h := insI_len s (b[i]'(by omega))
    unfold m_r22_Merge_l3
    rw [d_lt (by omega), cond_true, geti_lt (by omega), obind_some, into_ok (by omega), obind_some, inc_ok (by omega), rmerge_l3 hb n (i + 1) fu (insI s (b[i]'(by omega))) (by omega) (by omega) (by omega), drop_cons (l := b) (i := i) (by omega)]
    rfl
theorem rmerge_l0 {a b : List Int} (ha : a.length ≤ 100000) (hb : b.length ≤ 100000) : ∀ (n i fu : Nat) (s : List Int), i + n = a.length → n < fu → s.length ≤ i → m_r22_Merge_l0 a b fu s (i : Int) = some (insAll (insAll s (a.drop i)) b)
  | 0, i, fu, s, hi, hf, hs => by
    obtain ⟨fu, rfl⟩ : ∃ k, fu = k + 1 := ⟨fu - 1, by omega⟩
    unfold m_r22_Merge_l0
    rw [d_nlt (by omega), cond_false, List.drop_of_length_le (by omega)]
    exact rmerge_l3 hb b.length 0 _ s (by omega) (by omega) (by omega)
  | n + 1, i, fu, s, hi, hf, hs => by
    obtain ⟨fu, rfl⟩ : ∃ k, fu = k + 1 := ⟨fu - 1, by omega⟩
    have h := insI_len s (a[i]'(by omega))
    unfold m_r22_Merge_l0
    rw [d_lt (by omega), cond_true, geti_lt (by omega), obind_some, into_ok (by omega), obind_some, inc_ok (by omega), rmerge_l0 ha hb n (i + 1) fu (insI s (a[i]'(by omega))) (by omega) (by omega) (by omega), drop_cons (l := a) (i := i) (by omega)]
    rfl
theorem rmerge_ok {a b : List Int} (ha : a.length ≤ 100000) (hb : b.length ≤ 100000) : m_r22_Merge a b = some (insAll (insAll [] a) b) := by
  unfold m_r22_Merge
  exact rmerge_l0 ha hb a.length 0 _ [] (by omega) (by omega) (Nat.le_refl _)
theorem merge_eq {a b r : List Int} (h : IsMerge a b r) : r = insAll (insAll [] a) b :=
  strict_ext h.strict (insAll_strict b (insAll_strict a List.Pairwise.nil)) fun x => by rw [h.mem, insAll_mem, insAll_mem]; simp
end Go.Proofs.Ytelhmhmgaaebpaa.K

namespace Go.Proofs.Ytelhmhmgaaebpaa.K
open Go.RowKit Go.Lib

end Go.Proofs.Ytelhmhmgaaebpaa.K

namespace Go.Proofs.Ytelhmhmgaaebpaa.K
open Go.RowKit Go.Lib
theorem main_TrailMerges (p0 : List Int) (p1 : List Int) (h0 : wfL (inK .u32) p0) (h1 : wfL (inK .u32) p1) : m_w22_TrailMerges p0 p1 = some true := by
  unfold m_w22_TrailMerges
  rw [awk22]
  by_cases a1 : 40 < p0.length
  · rw [d_lt (by omega), cond_true]; rfl
  rw [d_nlt (by omega), cond_false]
  by_cases a2 : 40 < p1.length
  · rw [d_lt (by omega), cond_true]; rfl
  obtain ⟨r, e, hr⟩ := merge_ok (a := p0) (b := p1) (by omega)
  have hl := hr.len
  rw [d_nlt (by omega), cond_false, e, obind_some, rmerge_ok (by omega) (by omega), obind_some, ← merge_eq hr, decide_eq_false (by simp), cond_false]
  exact loop1_0 (L := fun fu i => m_w22_TrailMerges_l5 r r fu i) (n := r.length) (P := fun i o => o = some true) (by omega)
    (fun fu => by
      unfold m_w22_TrailMerges_l5
      rw [d_nlt (by omega), cond_false, awk22]; rfl)
    (fun fu i hi ih => by
      unfold m_w22_TrailMerges_l5
      rw [d_lt (by omega), cond_true, geti_lt hi, obind_some, obind_some, decide_eq_false (by simp), cond_false, inc_ok (by omega)]
      exact ih)
end Go.Proofs.Ytelhmhmgaaebpaa.K
