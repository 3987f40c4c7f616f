/- Plain laws of what the models are made of. -/
import Derived.Test.YtanahlngkociaaaLd
namespace Go.Proofs.Ytanahlngkociaaa.K
open Go.RowKit Go.Lib
set_option linter.unusedVariables false
theorem w64 {n : Int} (h1 : -9223372036854775808 ≤ n) (h2 : n ≤ 9223372036854775807) : IntKind.i64.wrap n = n := by
  simp [IntKind.wrap, IntKind.signed, IntKind.bits]; omega
theorem wu64 (n : Int) : IntKind.u64.wrap n = n % 18446744073709551616 := K.wrap_u64 n
section
variable {α : Type} {l r : List α} {i : Nat} {x : α}
theorem geti_nat : geti l (i : Int) = l[i]? := by simp [geti]
theorem geti_neg {i : Int} (h : i < 0) : geti l i = none := by unfold geti; rw [if_neg (by omega)]
theorem geti_lt (h : i < l.length) : geti l (i : Int) = some l[i] := by rw [geti_nat, List.getElem?_eq_getElem h]
theorem geti_of {i : Int} {k : Nat} (e : i = k) (h : l[k]? = some x) : geti l i = some x := by rw [e, geti_nat, h]
theorem app_ok (h : l.length + r.length ≤ 1000000000) : app l r = some (l ++ r) := if_pos h
theorem cut_ok {a b : Nat} (h1 : a ≤ b) (h2 : b ≤ l.length) : cut l (a : Int) (b : Int) = some ((l.drop a).take (b - a)) := by unfold cut; rw [if_pos (by omega)]; rfl
theorem obind_some {β : Type} {f : α → Option β} : Option.bind (some x) f = f x := rfl
end
end Go.Proofs.Ytanahlngkociaaa.K
