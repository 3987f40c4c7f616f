/- Plain laws of what the models are made of. -/
import Derived.Test.YtdpmojhejidhiaaLd
namespace Go.Proofs.Ytdpmojhejidhiaa.K
open Go.RowKit Go.Lib
set_option linter.unusedVariables false
set_option linter.unusedSimpArgs false
theorem w64 {n : Int} (h1 : -9223372036854775808 ≤ n) (h2 : n ≤ 9223372036854775807) : IntKind.i64.wrap n = n := by
  simp [IntKind.wrap, IntKind.signed, IntKind.bits]; omega
theorem wu64 (n : Int) : IntKind.u64.wrap n = n % 18446744073709551616 := K.wrap_u64 n
theorem wu32 (n : Int) : IntKind.u32.wrap n = n % 4294967296 := K.wrap_u32 n
theorem maxLen_le {n : Nat} (h : n ≤ maxLen) : n ≤ 9223372036854775807 := by unfold maxLen at h; omega
section
variable {α : Type} {l r : List α} {i n : Nat} {x : α}
/-- One further. -/
theorem inc_ok (h2 : i ≤ 9223372036854775806) : IntKind.i64.wrap ((i : Int) + 1) = ((i + 1 : Nat) : Int) := by
  rw [w64 (by omega) (by omega)]; omega
theorem geti_nat : geti l (i : Int) = l[i]? := by simp [geti]
theorem geti_neg {i : Int} (h : i < 0) : geti l i = none := by unfold geti; rw [if_neg (by omega)]
theorem geti_lt (h : i < l.length) : geti l (i : Int) = some l[i] := by rw [geti_nat, List.getElem?_eq_getElem h]
theorem geti_of {i : Int} {k : Nat} (e : i = k) (h : l[k]? = some x) : geti l i = some x := by rw [e, geti_nat, h]
theorem geti_0 {y : α} : geti (y :: l) 0 = some y := rfl
theorem app_ok (h : l.length + r.length ≤ 1000000000) : app l r = some (l ++ r) := if_pos h
theorem cut_ok {a b : Nat} (h1 : a ≤ b) (h2 : b ≤ l.length) : cut l (a : Int) (b : Int) = some ((l.drop a).take (b - a)) := by unfold cut; rw [if_pos (by omega)]; rfl
theorem obind_some {β : Type} {f : α → Option β} : Option.bind (some x) f = f x := rfl
theorem bind_of {β : Type} {o : Option α} {f : α → Option β} (h : o = some x) : Option.bind o f = f x := by rw [h]; rfl
theorem chk_ok {p : Prop} [Decidable p] {o : Option α} (h : p) : chk p o = o := if_pos h
theorem d_lt {a b : Int} (h : a < b) : decide (a < b) = true := decide_eq_true h
theorem d_nlt {a b : Int} (h : ¬ a < b) : decide (a < b) = false := decide_eq_false h
theorem drop_cons (h : i < l.length) : l.drop i = l[i] :: l.drop (i + 1) := List.drop_eq_getElem_cons h
theorem take_snoc (h : i < l.length) : l.take (i + 1) = l.take i ++ [l[i]] := by rw [List.take_add_one, List.getElem?_eq_getElem h]; rfl
end
/-- A loop that counts up to n: by what it comes to from place i on, in state s. -/
theorem loopG {σ R : Type} {L : Nat → σ → Int → Option R} {n : Nat} {P : Nat → σ → Option R → Prop} (hend : ∀ fu s, P n s (L (fu + 1) s (n : Int)))
    (hstep : ∀ fu s i, i < n → (∀ s', P (i + 1) s' (L fu s' ((i + 1 : Nat) : Int))) → P i s (L (fu + 1) s (i : Int))) : ∀ fu i s, i ≤ n → n - i < fu → P i s (L fu s (i : Int))
  | 0, i, s, _, h => by omega
  | fu + 1, i, s, h1, h2 => by
    rcases Nat.lt_or_ge i n with h | h
    · exact hstep fu s i h fun s' => loopG hend hstep fu (i + 1) s' (by omega) (by omega)
    · obtain rfl : i = n := by omega
      exact hend fu s
/-- The same without a state. -/
theorem loop1 {R : Type} {L : Nat → Int → Option R} {n : Nat} {P : Nat → Option R → Prop} (hend : ∀ fu, P n (L (fu + 1) (n : Int)))
    (hstep : ∀ fu i, i < n → P (i + 1) (L fu ((i + 1 : Nat) : Int)) → P i (L (fu + 1) (i : Int))) (fu i : Nat) (h1 : i ≤ n) (h2 : n - i < fu) : P i (L fu (i : Int)) :=
  loopG (σ := Unit) (L := fun fu _ i => L fu i) (P := fun i _ o => P i o) (fun fu _ => hend fu) (fun fu _ i hi h => hstep fu i hi (h ())) fu i () h1 h2
/-- From the first place on. -/
theorem loop1_0 {R : Type} {L : Nat → Int → Option R} {n : Nat} {P : Nat → Option R → Prop} (hn : n < 1152921504606846976) (hend : ∀ fu, P n (L (fu + 1) (n : Int)))
    (hstep : ∀ fu i, i < n → P (i + 1) (L fu ((i + 1 : Nat) : Int)) → P i (L (fu + 1) (i : Int))) : P 0 (L 1152921504606846976 0) := loop1 hend hstep _ 0 (Nat.zero_le _) (by omega)
theorem loopG_0 {σ R : Type} {L : Nat → σ → Int → Option R} {n : Nat} {P : Nat → σ → Option R → Prop} (hn : n < 1152921504606846976) (hend : ∀ fu s, P n s (L (fu + 1) s (n : Int)))
    (hstep : ∀ fu s i, i < n → (∀ s', P (i + 1) s' (L fu s' ((i + 1 : Nat) : Int))) → P i s (L (fu + 1) s (i : Int))) (s : σ) : P 0 s (L 1152921504606846976 s 0) := loopG hend hstep _ 0 s (Nat.zero_le _) (by omega)
/-- A loop that lays f of each behind what there is. -/
theorem map_loop {α β R : Type} {L : Nat → List β → Int → Option R} {l : List α} {f : α → β} {e : List β → R} (hl : l.length ≤ 400000000)
    (hend : ∀ fu s, L (fu + 1) s (l.length : Int) = some (e s)) (hstep : ∀ fu s i, (h : i < l.length) → s.length ≤ 400000000 → L (fu + 1) s (i : Int) = L fu (s ++ [f l[i]]) ((i + 1 : Nat) : Int)) : L 1152921504606846976 [] 0 = some (e (l.map f)) := by
  have := loopG_0 (L := L) (n := l.length) (P := fun i s o => s.length = i → o = some (e (s ++ (l.drop i).map f))) (by omega) (fun fu s hs => by rw [hend]; simp) (fun fu s i hi ih hs => by
    rw [hstep fu s i hi (by omega), ih (s ++ [f l[i]]) (by simp [hs]), drop_cons hi, List.map_cons, List.append_assoc]; rfl) [] rfl
  simpa using this
end Go.Proofs.Ytdpmojhejidhiaa.K
