/- HashParts: plain. -/
import Derived.Test.YtpacbldefdggjaaLM
import Derived.Test.YtpacbldefdggjaaLp
import Derived.Test.YtpacbldefdggjaaLO
namespace Go.Proofs.Ytpacbldefdggjaa.K
open Go.RowKit Go.Lib
set_option linter.unusedVariables false
set_option linter.unusedSimpArgs false
theorem awk08p : m_telltalelaw08_awake = some true := by decide +kernel
def stepH (s : Int) (x : UInt8) : Int := IntKind.u64.wrap ((IntKind.u64.wrap (((BitVec.ofInt 64 s ^^^ BitVec.ofInt 64 ((x.toNat : Nat) : Int)).toNat : Int))) * 1099511628211)
def addH : Int → List UInt8 → Int
  | s, [] => s
  | s, x :: l => addH (stepH s x) l
theorem add08 {l : List UInt8} (hl : l.length ≤ 1000000000) (s : Int) : m_hash_Add s l = some (addH s l) := by
  unfold m_hash_Add
  exact loopG_0 (L := fun fu s i => m_hash_Add_l0 l fu s i) (n := l.length) (P := fun i s o => o = some (addH s (l.drop i))) (by omega)
    (fun fu s => by unfold m_hash_Add_l0; rw [d_nlt (by omega), cond_false, List.drop_of_length_le (Nat.le_refl _)]; rfl)
    (fun fu s i hi ih => by
      unfold m_hash_Add_l0
      rw [d_lt (by omega), cond_true, geti_lt hi, obind_some, obind_some, inc_ok (by omega), ih, drop_cons hi]; rfl) s
theorem addH_app : ∀ (a b : List UInt8) (s : Int), addH s (a ++ b) = addH (addH s a) b
  | [], b, s => rfl
  | x :: a, b, s => addH_app a b (stepH s x)
theorem wu_range (n : Int) : 0 ≤ IntKind.u64.wrap n ∧ IntKind.u64.wrap n ≤ 18446744073709551615 := by rw [wu64]; omega
theorem sum08 {l : List UInt8} (hl : l.length ≤ 1000000000) : m_hash_Sum l = some (addH 14695981039346656037 l) := by
  unfold m_hash_Sum; rw [add08 hl, obind_some]
/-! ### one step takes no two states, and no two bytes, to one -/
theorem mul_inj {u v : Nat} (hu : u < 18446744073709551616) (hv : v < 18446744073709551616) (h : ((u : Int) * 1099511628211) % 18446744073709551616 = ((v : Int) * 1099511628211) % 18446744073709551616) : u = v := by
  have h1 : ((u : Int) * 1099511628211 % 18446744073709551616 * 14886173955864302971) % 18446744073709551616 = ((v : Int) * 1099511628211 % 18446744073709551616 * 14886173955864302971) % 18446744073709551616 := by rw [h]
  have key : ∀ w z : Int, (w % 18446744073709551616 * z) % 18446744073709551616 = (w * z) % 18446744073709551616 := fun w z => by
    rw [Int.mul_emod, Int.emod_emod_of_dvd _ (Int.dvd_refl _), ← Int.mul_emod]
  rw [key, key, Int.mul_assoc, Int.mul_assoc] at h1
  have e : (1099511628211 : Int) * 14886173955864302971 = 1 + 18446744073709551616 * 887285111055 := by decide +kernel
  have h2 : ∀ w : Nat, w < 18446744073709551616 → ((w : Int) * (1099511628211 * 14886173955864302971)) % 18446744073709551616 = w := fun w hw => by
    rw [e, Int.mul_add, Int.mul_one, Int.mul_left_comm, Int.add_mul_emod_self_left]
    exact Int.emod_eq_of_lt (by omega) (by omega)
  have h3 := (h2 u hu).symm.trans (h1.trans (h2 v hv))
  exact Int.ofNat.inj h3
theorem stepH_eq (s : Int) (x : UInt8) : stepH s x = (((BitVec.ofInt 64 s ^^^ BitVec.ofInt 64 ((x.toNat : Nat) : Int)).toNat : Int) * 1099511628211) % 18446744073709551616 := by
  unfold stepH
  have := (BitVec.ofInt 64 s ^^^ BitVec.ofInt 64 ((x.toNat : Nat) : Int)).isLt
  rw [wu64 ((BitVec.ofInt 64 s ^^^ BitVec.ofInt 64 ((x.toNat : Nat) : Int)).toNat : Int), Int.emod_eq_of_lt (by omega) (by omega), wu64]
theorem xor_right {n : Nat} {a b c : BitVec n} (h : a ^^^ c = b ^^^ c) : a = b := by
  have := congrArg (· ^^^ c) h
  simpa [BitVec.xor_assoc] using this
theorem xor_left {n : Nat} {a b c : BitVec n} (h : c ^^^ a = c ^^^ b) : a = b := by
  rw [BitVec.xor_comm c a, BitVec.xor_comm c b] at h; exact xor_right h
theorem ofInt64_inj {a b : Int} (ha : 0 ≤ a ∧ a ≤ 18446744073709551615) (hb : 0 ≤ b ∧ b ≤ 18446744073709551615) (h : BitVec.ofInt 64 a = BitVec.ofInt 64 b) : a = b := by
  have := congrArg BitVec.toNat h
  rw [BitVec.toNat_ofInt, BitVec.toNat_ofInt] at this
  omega
theorem step_inj {s t : Int} {x : UInt8} (hs : 0 ≤ s ∧ s ≤ 18446744073709551615) (ht : 0 ≤ t ∧ t ≤ 18446744073709551615) (h : stepH s x = stepH t x) : s = t := by
  rw [stepH_eq, stepH_eq] at h
  exact ofInt64_inj hs ht (xor_right (BitVec.eq_of_toNat_eq (mul_inj (BitVec.isLt _) (BitVec.isLt _) h)))
theorem step_byte {s : Int} {x y : UInt8} (h : stepH s x = stepH s y) : x = y := by
  rw [stepH_eq, stepH_eq] at h
  have h1 := x.toNat_lt
  have h2 := y.toNat_lt
  have := ofInt64_inj (by omega) (by omega) (xor_left (BitVec.eq_of_toNat_eq (mul_inj (BitVec.isLt _) (BitVec.isLt _) h)))
  exact UInt8.toNat_inj.1 (by omega)
theorem step_range (s : Int) (x : UInt8) : 0 ≤ stepH s x ∧ stepH s x ≤ 18446744073709551615 := wu_range _
theorem addH_range : ∀ (l : List UInt8) (s : Int), (0 ≤ s ∧ s ≤ 18446744073709551615) → 0 ≤ addH s l ∧ addH s l ≤ 18446744073709551615
  | [], s, h => h
  | x :: l, s, h => addH_range l _ (step_range s x)
theorem addH_inj : ∀ (l : List UInt8) {s t : Int}, (0 ≤ s ∧ s ≤ 18446744073709551615) → (0 ≤ t ∧ t ≤ 18446744073709551615) → addH s l = addH t l → s = t
  | [], s, t, _, _, h => h
  | x :: l, s, t, hs, ht, h => step_inj hs ht (addH_inj l (step_range s x) (step_range t x) h)
theorem set_other {l : List UInt8} {k : Nat} {v : UInt8} {s : Int} (hk : k < l.length) (hv : v ≠ l[k]) : addH s (l.set k v) ≠ addH s l := by
  intro h
  have e1 : l = l.take k ++ l[k] :: l.drop (k + 1) := by rw [← drop_cons hk, List.take_append_drop]
  have e2 : l.set k v = l.take k ++ v :: l.drop (k + 1) := List.set_eq_take_append_cons_drop .. |>.trans (by rw [if_pos hk])
  rw [e2] at h
  conv at h => rhs; rw [e1]
  rw [addH_app, addH_app] at h
  exact hv (step_byte (addH_inj (l.drop (k + 1)) (step_range _ _) (step_range _ _) h))
theorem xor_other {x y : UInt8} (hy : y.toNat ≠ 0) : toU8 (((BitVec.ofInt 8 ((x.toNat : Nat) : Int) ^^^ BitVec.ofInt 8 ((y.toNat : Nat) : Int)).toNat : Nat) : Int) ≠ x := by
  intro h
  have h1 := x.toNat_lt
  have h2 := y.toNat_lt
  have h3 := (BitVec.ofInt 8 ((x.toNat : Nat) : Int) ^^^ BitVec.ofInt 8 ((y.toNat : Nat) : Int)).isLt
  have h4 := congrArg UInt8.toNat h
  unfold toU8 at h4
  rw [UInt8.toNat_ofNat'] at h4
  have h5 : BitVec.ofInt 8 ((x.toNat : Nat) : Int) ^^^ BitVec.ofInt 8 ((y.toNat : Nat) : Int) = BitVec.ofInt 8 ((x.toNat : Nat) : Int) ^^^ 0#8 := by
    apply BitVec.eq_of_toNat_eq
    rw [BitVec.xor_zero, BitVec.toNat_ofInt]
    omega
  have h6 := congrArg BitVec.toNat (xor_left h5)
  rw [BitVec.toNat_ofInt] at h6
  simp at h6
  omega
theorem mix08 {a : Int} : ∃ r, m_hash_Mix a = some r ∧ 0 ≤ r ∧ r ≤ 18446744073709551615 := by
  unfold m_hash_Mix
  rw [obind_some, obind_some]
  exact ⟨_, rfl, wu_range _⟩
theorem worker08 {l : List UInt8} (hl : l.length ≤ 1000000000) {n : Int} (hn : -9223372036854775808 ≤ n ∧ n ≤ 9223372036854775807) : ∃ r, m_hash_Worker l n = some r ∧ 0 ≤ r ∧ (0 < n → r < n) ∧ (n ≤ 1 → r = 0) := by
  unfold m_hash_Worker
  by_cases h : n < 1
  · rw [d_lt h]; exact ⟨0, rfl, by omega, by omega, by omega⟩
  · obtain ⟨r, e, r1, r2⟩ := mix08 (a := addH 14695981039346656037 l)
    rw [d_nlt h, cond_false, sum08 hl, obind_some, e, obind_some, wu64 n, Int.emod_eq_of_lt (by omega) (by omega), chk_ok (by omega), Int.tmod_eq_emod_of_nonneg r1]
    have h1 := Int.emod_nonneg r (by omega : n ≠ 0)
    have h2 := Int.emod_lt_of_pos r (by omega : 0 < n)
    rw [w64 (by omega) (by omega)]
    exact ⟨_, rfl, h1, fun _ => h2, fun h3 => by omega⟩
theorem j10_08 {l : List UInt8} {q : GArr2_Int} (hl : l.length ≤ 300) : m_telltalelaw08_HashParts_j10 l q = some true := by
  unfold m_telltalelaw08_HashParts_j10
  rw [awk08p]
  by_cases h0 : l.length = 0
  · rw [decide_eq_true (by omega)]; rfl
  rw [decide_eq_false (by omega), cond_false, chk_ok (by omega), wu64 ((l.length : Nat) : Int), Int.emod_eq_of_lt (by omega) (by omega), chk_ok (by omega)]
  have ha := wu_range q.a1
  generalize IntKind.u64.wrap q.a1 = a at ha ⊢
  rw [Int.tmod_eq_emod_of_nonneg ha.1, Int.tmod_eq_emod_of_nonneg ha.1]
  have h1 := Int.emod_nonneg a (by omega : ((l.length : Nat) : Int) ≠ 0)
  have h2 := Int.emod_lt_of_pos a (by omega : 0 < ((l.length : Nat) : Int))
  generalize a % ((l.length : Nat) : Int) = i at h1 h2 ⊢
  obtain ⟨k, rfl⟩ : ∃ k : Nat, i = k := ⟨i.toNat, by omega⟩
  have hk : k < l.length := by omega
  rw [w64 (n := (k : Int)) (by omega) (by omega), geti_lt hk, obind_some, obind_some, obind_some, obind_some, Int.toNat_natCast, sum08 (by rw [List.length_set]; omega), obind_some, sum08 (by omega), obind_some, decide_eq_true (set_other hk (xor_other ?_)), cond_true, obind_some]
  rw [wu64]
  unfold toU8
  rw [UInt8.toNat_ofNat']
  omega
theorem main_HashParts (p0 p1 : List UInt8) (q : GArr2_Int) (h0 : p0.length ≤ maxLen) (h1 : p1.length ≤ maxLen) (hq : wf_GArr2_Int q) : m_telltalelaw08_HashParts p0 p1 q = some true := by
  unfold m_telltalelaw08_HashParts
  rw [awk08p]
  have l0 := maxLen_le h0
  have l1 := maxLen_le h1
  by_cases c0 : 300 < p0.length
  · rw [d_lt (by omega)]; rfl
  rw [d_nlt (by omega), cond_false]
  by_cases c1 : 300 < p1.length
  · rw [d_lt (by omega)]; rfl
  have j4 : m_telltalelaw08_HashParts_j4 p0 q = some true := by
    unfold m_telltalelaw08_HashParts_j4 m_telltalelaw08_HashParts_j8 m_telltalelaw08_HashParts_j9
    obtain ⟨r, e, r1, r2, r3⟩ := worker08 (l := p0) (by omega) (in_i64 hq.a0)
    rw [e, obind_some, d_nlt (by omega), cond_false, j10_08 (by omega)]
    by_cases d0 : 0 < q.a0
    · rw [d_lt d0, cond_true, decide_eq_false (by have := r2 d0; omega), cond_false]
      by_cases d1 : q.a0 ≤ 1
      · rw [decide_eq_true d1, cond_true, decide_eq_false (by simp [r3 d1])]; rfl
      · rw [decide_eq_false d1]; rfl
    · rw [d_nlt d0, cond_false, decide_eq_true (by omega), cond_true, decide_eq_false (by simp [r3 (by omega)])]; rfl
  rw [d_nlt (by omega), cond_false, app_ok (by omega), obind_some, sum08 (by rw [List.length_append]; omega), obind_some, sum08 (by omega), obind_some, add08 (by omega), obind_some, addH_app, decide_eq_false (by simp), cond_false, j4]
  by_cases c2 : p0.length = 0
  · have : p0 = [] := List.eq_nil_of_length_eq_zero c2
    subst this
    rw [add08 (by simp), decide_eq_true (by simp), cond_true, obind_some, decide_eq_false (by simp [addH]), cond_false]
  · rw [decide_eq_false (by omega), cond_false]
end Go.Proofs.Ytpacbldefdggjaa.K
