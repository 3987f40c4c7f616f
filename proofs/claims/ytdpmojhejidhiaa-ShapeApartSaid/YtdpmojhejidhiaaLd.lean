/- The readings of a law's arguments as typed data. -/
import Derived.Test.YtdpmojhejidhiaaLe
import Derived.Test.YtdpmojhejidhiaaFrame
namespace Go.Proofs.Ytdpmojhejidhiaa.K
open Go.RowKit Go.Lib
set_option linter.unusedVariables false
set_option linter.unusedSimpArgs false
def inK (k : IntKind) (n : Int) : Prop := (Lit.int k n).wf = true
def wfT {α : Type} (_ : α) : Prop := True
def wfS (l : List UInt8) : Prop := l.length ≤ maxLen
def wfL {α : Type} (q : α → Prop) (l : List α) : Prop := l.length ≤ maxLen ∧ ∀ x ∈ l, q x
theorem in_i64 {n : Int} (h : inK .i64 n) : -9223372036854775808 ≤ n ∧ n ≤ 9223372036854775807 := bounds_i64 h
theorem in_u64 {n : Int} (h : inK .u64 n) : 0 ≤ n ∧ n ≤ 18446744073709551615 := by
  simp [inK, Lit.wf, IntKind.min, IntKind.max, IntKind.signed, IntKind.bits] at h
  omega
theorem in_u32 {n : Int} (h : inK .u32 n) : 0 ≤ n ∧ n ≤ 4294967295 := by
  simp [inK, Lit.wf, IntKind.min, IntKind.max, IntKind.signed, IntKind.bits] at h
  omega
section
variable {P : Program} {t e : TypeId} {ds : List D}
theorem td_int {k : IntKind} (hu : P.underlying t = some (.int k)) (h : TD P t ds) : ∃ n, ds = encI k n ∧ inK k n := TD.of_int hu h
theorem td_u8 (hu : P.underlying t = some (.int .u8)) (h : TD P t ds) : ∃ b : UInt8, ds = encU8 b ∧ wfT b := by
  obtain ⟨n, rfl, hw⟩ := TD.of_int hu h
  simp [Lit.wf, IntKind.min, IntKind.max, IntKind.signed, IntKind.bits] at hw
  refine ⟨UInt8.ofNat n.toNat, ?_, trivial⟩
  have : (((UInt8.ofNat n.toNat).toNat : Nat) : Int) = n := by
    have h2 : (UInt8.ofNat n.toNat).toNat = n.toNat % 256 := UInt8.toNat_ofNat
    rw [h2]; omega
  unfold encU8 byteD
  rw [this]
theorem td_bool (hu : P.underlying t = some .bool) (h : TD P t ds) : ∃ b : Bool, ds = encB b ∧ wfT b := by
  obtain ⟨b, rfl⟩ := TD.of_bool hu h
  exact ⟨b, rfl, trivial⟩
theorem td_str (hu : P.underlying t = some .string) (h : TD P t ds) : ∃ l : List UInt8, ds = encS l ∧ wfS l := by
  obtain ⟨s, rfl, hs⟩ := TD.of_str hu h
  exact ⟨s.data.toList, rfl, hs⟩
theorem td_slice {α : Type} {enc : α → List D} {q : α → Prop} (hu : P.underlying t = some (.slice e)) (he : ∀ {r}, TD P e r → ∃ x, r = enc x ∧ q x) (h : TD P t ds) : ∃ l : List α, ds = encL enc l ∧ wfL q l := by
  obtain ⟨l, rfl, h1, h2⟩ := TD.of_slice hu he h
  exact ⟨l, rfl, h1, h2⟩
end
theorem rep_1 {S : Nat → Prop} {w : World} {m : Mp} {x : D} {v : Value} {xs : List D} (h : RepD S w x v) (e : [x] = xs) {y : D} (hy : xs = [y]) : Rep m S w (.d y) v := by
  subst hy
  cases e
  exact rep_d h
theorem rep_ag {S : Nat → Prop} {w : World} {m : Mp} {ds : List D} {as' : List A} {cs : Array Value} (h : RepsD S w ds cs.toList) (e : ds.map A.d = as' := by rfl) : Rep m S w (.agg as') (.agg cs) := by
  subst e
  exact rep_agg (reps_of_repsD h)
theorem rep_str {S : Nat → Prop} {w : World} {m : Mp} {s : ByteArray} : Rep m S w (.d (.lit (.string (toS s.data.toList)))) (.string s) := rep_lit rfl
end Go.Proofs.Ytdpmojhejidhiaa.K
