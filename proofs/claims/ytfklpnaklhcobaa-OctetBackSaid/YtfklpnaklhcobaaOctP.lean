/- Numbers to the base 256, the highest first: plain. -/
namespace Go.Proofs.Ytfklpnaklhcobaa
/-- The k lowest bytes of u, the highest first. -/
def beb : Nat → Nat → List UInt8
  | 0, _ => []
  | k + 1, u => UInt8.ofNat (u / 256 ^ k % 256) :: beb k u
theorem beb_length : ∀ (k u : Nat), (beb k u).length = k
  | 0, _ => rfl
  | k + 1, u => by rw [beb, List.length_cons, beb_length k u]
/-- A number read off bytes, v ahead of them. -/
def ben (l : List UInt8) (v : Nat) : Nat := l.foldl (fun v c => v * 256 + c.toNat) v
theorem ben_cons (c : UInt8) (l : List UInt8) (v : Nat) : ben (c :: l) v = ben l (v * 256 + c.toNat) := rfl
theorem ben_append (l r : List UInt8) (v : Nat) : ben (l ++ r) v = ben r (ben l v) := List.foldl_append ..
theorem ben_eq : ∀ (l : List UInt8) (v : Nat), ben l v = v * 256 ^ l.length + ben l 0
  | [], v => by simp [ben]
  | c :: l, v => by
    rw [ben_cons, ben_cons, ben_eq l (v * 256 + c.toNat), ben_eq l (0 * 256 + c.toNat), List.length_cons, Nat.pow_succ]
    have e : (v * 256 + c.toNat) * 256 ^ l.length = v * (256 ^ l.length * 256) + (0 * 256 + c.toNat) * 256 ^ l.length := by
      rw [Nat.add_mul, Nat.mul_assoc, Nat.mul_comm 256, Nat.zero_mul, Nat.zero_add]
    omega
theorem ben_lt : ∀ (l : List UInt8), ben l 0 < 256 ^ l.length
  | [] => by simp [ben]
  | c :: l => by
    have h := ben_lt l
    have hc : c.toNat ≤ 255 := by have := c.toNat_lt; omega
    rw [ben_cons, ben_eq, List.length_cons, Nat.pow_succ]
    have : (0 * 256 + c.toNat) * 256 ^ l.length ≤ 255 * 256 ^ l.length := Nat.mul_le_mul_right _ (by omega)
    omega
theorem ben_lt' {l : List UInt8} {v k : Nat} (h : v < 256 ^ k) : ben l v < 256 ^ (k + l.length) := by
  rw [ben_eq, Nat.pow_add]
  have h1 := ben_lt l
  have h2 : (v + 1) * 256 ^ l.length ≤ 256 ^ k * 256 ^ l.length := Nat.mul_le_mul_right _ h
  rw [Nat.add_mul] at h2
  omega
theorem beb_mod : ∀ (k u : Nat), beb k (u % 256 ^ k) = beb k u
  | 0, _ => rfl
  | k + 1, u => by
    have h1 : u % 256 ^ (k + 1) / 256 ^ k % 256 = u / 256 ^ k % 256 := by
      rw [Nat.pow_succ, Nat.mod_mul_right_div_self, Nat.mod_mod]
    have h2 : beb k (u % 256 ^ (k + 1)) = beb k u := by
      rw [← beb_mod k (u % 256 ^ (k + 1)), Nat.pow_succ, Nat.mod_mul_right_mod, beb_mod k u]
    rw [beb, beb, h1, h2]
theorem ben_beb : ∀ (k u : Nat), ben (beb k u) 0 = u % 256 ^ k
  | 0, u => by simp [beb, ben, Nat.mod_one]
  | k + 1, u => by
    have hlt : u / 256 ^ k % 256 < 256 := Nat.mod_lt _ (by decide)
    rw [beb, ben_cons, ben_eq, beb_length, ben_beb k u, Nat.pow_succ, Nat.mod_mul]
    simp only [UInt8.toNat_ofNat', Nat.zero_mul, Nat.zero_add]
    rw [show u / 256 ^ k % 256 % 2 ^ 8 = u / 256 ^ k % 256 from Nat.mod_eq_of_lt hlt, Nat.mul_comm]
    omega
theorem beb_ben (l : List UInt8) : beb l.length (ben l 0) = l := by
  induction l with
  | nil => rfl
  | cons c l ih =>
    have h := ben_lt l
    have hp : 0 < 256 ^ l.length := Nat.pow_pos (by decide)
    rw [List.length_cons, beb, ben_cons, ben_eq]
    simp only [Nat.zero_mul, Nat.zero_add]
    have e1 : (c.toNat * 256 ^ l.length + ben l 0) / 256 ^ l.length = c.toNat := by
      rw [Nat.add_comm, Nat.add_mul_div_right _ _ hp, Nat.div_eq_of_lt h, Nat.zero_add]
    have e2 : (c.toNat * 256 ^ l.length + ben l 0) % 256 ^ l.length = ben l 0 := by
      rw [Nat.add_comm, Nat.add_mul_mod_self_right, Nat.mod_eq_of_lt h]
    rw [e1, ← beb_mod, e2, ih]
    have : c.toNat % 256 = c.toNat := Nat.mod_eq_of_lt c.toNat_lt
    rw [this]
    simp
end Go.Proofs.Ytfklpnaklhcobaa
