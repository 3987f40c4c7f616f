/- A contract of the framework out of one that leaves old memory alone. -/
import Derived.Test.YtdpmojhejidhiaaLi
namespace Go.Proofs.Ytdpmojhejidhiaa.K
open Go.RowKit Go.Lib
set_option linter.unusedVariables false
set_option linter.unusedSimpArgs false
theorem Hold.below {m : Mp} {S : Nat → Prop} {w w' : World} (h : Hold ⟨w, S, P0of m S, m⟩ m S w []) (hb : Below w.heap.size w w') : Hold ⟨w, S, P0of m S, m⟩ m S w' [] := by
  refine ⟨hb.os, hb.tape, hb.output, hb.size, fun b hlt _ => hb.block b hlt, h.s0, fun b hs => ?_, fun id p b hm hp => ?_, h.apart, fun id => ?_, h.le⟩
  · have := h.s b hs
    exact ⟨this.1, Nat.lt_of_lt_of_le this.2 hb.size⟩
  · have := h.pl id p b hm hp
    exact ⟨this.1, Nat.lt_of_lt_of_le this.2 hb.size⟩
  · have := h.ok id
    simpa [BlkOK] using this
theorem Keeps.below {m : Mp} {S : Nat → Prop} {w w' : World} (h : Hold ⟨w, S, P0of m S, m⟩ m S w []) (hb : Below w.heap.size w w') : Keeps S w w' := fun b hs => hb.block b (h.s b hs).2
end Go.Proofs.Ytdpmojhejidhiaa.K
