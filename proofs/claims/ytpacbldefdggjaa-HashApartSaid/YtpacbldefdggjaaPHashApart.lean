/- HashApart: plain. -/
import Derived.Test.YtpacbldefdggjaaPHashKeys
import Derived.Test.YtpacbldefdggjaaPzdec
namespace Go.Proofs.Ytpacbldefdggjaa.K
open Go.RowKit Go.Lib
set_option linter.unusedVariables false
set_option linter.unusedSimpArgs false
theorem toU8_u8 (a : UInt8) : toU8 ((a.toNat : Nat) : Int) = a := by
  apply UInt8.toNat_inj.1
  rw [toU8_nat]
  have := a.toNat_lt
  omega
theorem apart_core {a b : UInt8} {v w : GValue} (hv : okB v) (hw : okB w) (hc : chkV v = 0) (s : Bool) (hs : s = true ↔ v = w) : decide (keyV ((a.toNat : Nat) : Int) v = keyV ((b.toNat : Nat) : Int) w) = (s && decide (((a.toNat : Nat) : Int) = ((b.toNat : Nat) : Int))) := by
  unfold keyV
  rw [if_neg (by simp [hc]), toU8_u8, toU8_u8, Bool.eq_iff_iff, Bool.and_eq_true, decide_eq_true_eq, decide_eq_true_eq, hs]
  constructor
  · intro h
    by_cases hw0 : chkV w = 0
    · rw [if_neg (by simp [hw0])] at h
      obtain ⟨e1, e2⟩ := List.cons.inj h
      have := bytes_inj hc hw0 hv.B hw.B (r := []) (s := []) (by rw [List.append_nil, List.append_nil]; exact e2)
      exact ⟨this.1, by rw [e1]⟩
    · rw [if_pos hw0] at h; cases h
  · rintro ⟨rfl, h⟩
    have : a = b := UInt8.toNat_inj.1 (by omega)
    subst this
    rw [if_neg (by simp [hc])]
theorem same_iff (v w : GValue) : (decide (((v.Kind.toNat : Nat) : Int) = ((w.Kind.toNat : Nat) : Int)) && (decide (v.N = w.N) && (decide (v.Bits = w.Bits) && (decide (v.Text = w.Text) && true)))) = true ↔ v = w := by
  obtain ⟨k, n, b, t⟩ := v
  obtain ⟨k', n', b', t'⟩ := w
  simp only [Bool.and_eq_true, decide_eq_true_eq, and_true, GValue.mk.injEq]
  constructor
  · rintro ⟨h1, h2, h3, h4⟩
    exact ⟨UInt8.toNat_inj.1 (by omega), h2, h3, h4⟩
  · rintro ⟨h1, h2, h3, h4⟩
    exact ⟨by rw [h1], h2, h3, h4⟩
theorem main_HashApart (p : GArr2_UInt8) (v w : GValue) (hp : wf_GArr2_UInt8 p) (hv : wf_GValue v) (hw : wf_GValue w) : m_telltalelaw08_HashApart p v w = some true := by
  unfold m_telltalelaw08_HashApart
  rw [awk08, small08 hv.Text, small08 hw.Text, obind_some, obind_some]
  by_cases h1 : 100 < v.Text.length
  · rw [d_lt (by omega)]; rfl
  rw [d_nlt (by omega), cond_false, obind_some]
  by_cases h2 : 100 < w.Text.length
  · rw [d_lt (by omega)]; rfl
  have kv := wf_okB8 hv (by omega)
  have kw := wf_okB8 hw (by omega)
  rw [d_nlt (by omega), cond_false, key_ok kv, obind_some, key_ok kw, obind_some, check_ok kv.B, obind_some]
  by_cases hc : chkV v = 0
  · rw [decide_eq_false (by simp [hc]), cond_false, obind_some, apart_core kv kw hc _ (same_iff v w)]
    have hkey : keyV ((p.a0.toNat : Nat) : Int) v = p.a0 :: v.Kind :: bytesV v := by unfold keyV; rw [if_neg (by simp [hc]), toU8_u8]
    have hp0 : ∀ (a : UInt8) (l : List UInt8), m_hash_Pattern (a :: l) = some ((a.toNat : Nat) : Int) := fun a l => rfl
    have hb : ∀ a : UInt8, m_hash_Bare ((a.toNat : Nat) : Int) = some [a] := fun a => by unfold m_hash_Bare; rw [toU8_u8]
    rw [hkey, hp0, hb, hb]
    simp only [obind_some]
    rw [hp0]
    simp only [obind_some, decide_true, cond_true]
    rw [decide_eq_true (p := ¬ (p.a0 :: v.Kind :: bytesV v = [p.a0])) (by simp)]
    generalize (decide (((v.Kind.toNat : Nat) : Int) = ((w.Kind.toNat : Nat) : Int)) && (decide (v.N = w.N) && (decide (v.Bits = w.Bits) && (decide (v.Text = w.Text) && true)))) = s
    cases s <;> simp
  · rw [decide_eq_true (by simp [hc]), cond_true]
    have : keyV ((p.a0.toNat : Nat) : Int) v = [] := by unfold keyV; rw [if_pos hc]
    rw [this]
    rfl
end Go.Proofs.Ytpacbldefdggjaa.K
