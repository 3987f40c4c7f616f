/- bind.Last as a contract of the framework: what does not hang on the printed types. -/
import Derived.Test.YtkagljfmfjaleaaBack
import Derived.Test.YtkagljfmfjaleaaLi
namespace Go.Proofs.Ytkagljfmfjaleaa.K
open Go.RowKit Go.Lib
set_option linter.unusedVariables false
theorem flat_cell {α : Type} {enc : α → List D} {sz : Nat} (he : ∀ a, (enc a).length = sz) : ∀ (l : List α) (k j : Nat) (x : α), l[k]? = some x → j < sz → (flatD enc l)[k * sz + j]? = (enc x)[j]?
  | [], k, j, x, h, _ => by simp at h
  | y :: l, 0, j, x, h, hj => by
    simp at h; subst h
    rw [flatD_cons, Nat.zero_mul, Nat.zero_add, List.getElem?_append_left (by rw [he]; exact hj)]
  | y :: l, k + 1, j, x, h, hj => by
    rw [flatD_cons, List.getElem?_append_right (by rw [he, Nat.succ_mul]; omega), he, show (k + 1) * sz + j - sz = k * sz + j by rw [Nat.succ_mul]; omega]
    exact flat_cell he l k j x (by simpa using h) hj
theorem Hold.below {m : Mp} {S : Nat → Prop} {w w' : World} (h : Hold ⟨w, S, P0of m S, m⟩ m S w []) (hb : Below w.heap.size w w') : Hold ⟨w, S, P0of m S, m⟩ m S w' [] := by
  refine ⟨hb.os, hb.tape, hb.output, hb.size, fun b hlt _ => hb.block b hlt, h.s0, fun b hs => ?_, fun id p b hm hp => ?_, h.apart, fun id => ?_, h.le⟩
  · have := h.s b hs
    exact ⟨this.1, Nat.lt_of_lt_of_le this.2 hb.size⟩
  · have := h.pl id p b hm hp
    exact ⟨this.1, Nat.lt_of_lt_of_le this.2 hb.size⟩
  · have := h.ok id
    simpa [BlkOK] using this
theorem Keeps.below {m : Mp} {S : Nat → Prop} {w w' : World} (h : Hold ⟨w, S, P0of m S, m⟩ m S w []) (hb : Below w.heap.size w w') : Keeps S w w' := fun b hs => hb.block b (h.s b hs).2
end Go.Proofs.Ytkagljfmfjaleaa.K
