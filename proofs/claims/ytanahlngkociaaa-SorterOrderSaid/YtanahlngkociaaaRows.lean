/-
  No cell of these rows narrows 'for every input' (looked for: loops, veiled, ifaces, maps, wideKeys, modest, calm, conditions, laid).
  DERIVED. THE GIVEN ROWS OF THIS SEAT. 4 by the template 'for every input the law returns true; each argument reads behind the call as it read before'; 0 by the template 'total and deterministic' (their statements: YtanahlngkociaaaTotals.lean).
  GIVEN WITH THE SEED: the statements are not yours to turn. If you find one false, say at which input.
  Laid BY PROGRAM, IN A SANDBOX (cutbox-rows.mjs): the forced cells as the released guide's own fill.sh prints them over the translation e612f38f8211acae… (all of the seat's roots in one cut). By AI agents, Wed Nov 11 2026. No macro, syntax, notation, axiom, sorry.
-/
import Derived.Test.YtanahlngkociaaaChecked
import GoSem.Claim
import GoSem.ClaimJoined
import GoSem.ClaimMapViews
import Derived.JoinedTies
import Derived.KernelRfl
namespace Go.Proofs.Ytanahlngkociaaa
/- THE CELL 'sum', in the pinned program and in every row, IS THE sha256 OF THE DUMP (.gsa) THAT YtanahlngkociaaaProg.lean LOADS. Nothing in Lean hashes anything: it is a label: what it is worth is what the hold of that sum in a sandbox is worth. -/
noncomputable def Try.pinned : Pinned := { name := "ytanahlngkociaaa", sum := "e612f38f8211acae677246fe86b0a058786b111115ace19093277f5915b713a2", checked := Try.checked }
namespace Rows
def none {H : Type} : Left H := { results := [], args := [] }

/-- 'telltalelaw24.SorterDoes': WHATEVER THE INPUT: true; the input reads as it did. -/
def sorterDoesSpec : ChangeSpec := { name := "sorterDoes", fn := fun _ => fun
  | [d1, d2] => { results := [.lit (.bool true)], args := [d1, d2] }
  | _ => none }
def sorterDoesRow : OpenClaim := { program := "ytanahlngkociaaa", sum := "e612f38f8211acae677246fe86b0a058786b111115ace19093277f5915b713a2", func := "telltale/telltalelaw24.SorterDoes", spec := "sorterDoes", unfollowed := true, recurses := true, apart := false }
def SorterDoesSaid : Prop := sorterDoesRow.holds Try.pinned (OpenSpec.ofChange sorterDoesSpec)

/-- ITS FALSE NEIGHBOUR: 'it returns false'. Refute it at one input. -/
def sorterDoesWrong : ChangeSpec := { name := "sorterDoes", fn := fun _ => fun
  | [d1, d2] => { results := [.lit (.bool false)], args := [d1, d2] }
  | _ => none }
def SorterDoesWrongFalsely : Prop := sorterDoesRow.holds Try.pinned (OpenSpec.ofChange sorterDoesWrong)

/-- 'telltalelaw24.SorterHeaps': WHATEVER THE INPUT: true; the input reads as it did. -/
def sorterHeapsSpec : ChangeSpec := { name := "sorterHeaps", fn := fun _ => fun
  | [d] => { results := [.lit (.bool true)], args := [d] }
  | _ => none }
def sorterHeapsRow : OpenClaim := { program := "ytanahlngkociaaa", sum := "e612f38f8211acae677246fe86b0a058786b111115ace19093277f5915b713a2", func := "telltale/telltalelaw24.SorterHeaps", spec := "sorterHeaps", unfollowed := true, recurses := true, apart := false }
def SorterHeapsSaid : Prop := sorterHeapsRow.holds Try.pinned (OpenSpec.ofChange sorterHeapsSpec)

/-- ITS FALSE NEIGHBOUR: 'it returns false'. Refute it at one input. -/
def sorterHeapsWrong : ChangeSpec := { name := "sorterHeaps", fn := fun _ => fun
  | [d] => { results := [.lit (.bool false)], args := [d] }
  | _ => none }
def SorterHeapsWrongFalsely : Prop := sorterHeapsRow.holds Try.pinned (OpenSpec.ofChange sorterHeapsWrong)

/-- 'telltalelaw24.SorterFine': WHATEVER THE INPUT: true; the input reads as it did. -/
def sorterFineSpec : ChangeSpec := { name := "sorterFine", fn := fun _ => fun
  | [d] => { results := [.lit (.bool true)], args := [d] }
  | _ => none }
def sorterFineRow : OpenClaim := { program := "ytanahlngkociaaa", sum := "e612f38f8211acae677246fe86b0a058786b111115ace19093277f5915b713a2", func := "telltale/telltalelaw24.SorterFine", spec := "sorterFine", unfollowed := true, recurses := true, apart := false }
def SorterFineSaid : Prop := sorterFineRow.holds Try.pinned (OpenSpec.ofChange sorterFineSpec)

/-- ITS FALSE NEIGHBOUR: 'it returns false'. Refute it at one input. -/
def sorterFineWrong : ChangeSpec := { name := "sorterFine", fn := fun _ => fun
  | [d] => { results := [.lit (.bool false)], args := [d] }
  | _ => none }
def SorterFineWrongFalsely : Prop := sorterFineRow.holds Try.pinned (OpenSpec.ofChange sorterFineWrong)

/-- 'telltalelaw24.SorterOrder': WHATEVER THE INPUT: true; the input reads as it did. -/
def sorterOrderSpec : ChangeSpec := { name := "sorterOrder", fn := fun _ => fun
  | [d1, d2] => { results := [.lit (.bool true)], args := [d1, d2] }
  | _ => none }
def sorterOrderRow : OpenClaim := { program := "ytanahlngkociaaa", sum := "e612f38f8211acae677246fe86b0a058786b111115ace19093277f5915b713a2", func := "telltale/telltalelaw24.SorterOrder", spec := "sorterOrder", unfollowed := true, recurses := true, apart := false }
def SorterOrderSaid : Prop := sorterOrderRow.holds Try.pinned (OpenSpec.ofChange sorterOrderSpec)

/-- ITS FALSE NEIGHBOUR: 'it returns false'. Refute it at one input. -/
def sorterOrderWrong : ChangeSpec := { name := "sorterOrder", fn := fun _ => fun
  | [d1, d2] => { results := [.lit (.bool false)], args := [d1, d2] }
  | _ => none }
def SorterOrderWrongFalsely : Prop := sorterOrderRow.holds Try.pinned (OpenSpec.ofChange sorterOrderWrong)

/- THE SECOND FORM. 'bulk': how many values and letters a reading holds, each counted each time it is reached (what is shared counts as often as it is met; a slice's spare places count too). A statement '..UptoSaid' is the law's where the arguments, and the package variables that the reading takes, are together of bulk at most 1048576: NARROWER than '..Said'. Prove '..Said' where nothing that the law and all that it calls make is longer than what came in: it says more and counts as full. Else prove '..UptoSaid'. A law counts once. -/
mutual
def uptoBulk {H : Type} : DataW H → Nat
  | .lit (.string bytes) => bytes.length + 1
  | .lit _ => 1
  | .nil => 1
  | .ptr d => uptoBulk d + 1
  | .slice elems spare => uptoBulkAll elems + uptoBulkAll spare + 1
  | .agg parts => uptoBulkAll parts + 1
  | .iface _ d => uptoBulk d + 1
  | .map entries => uptoBulkEntries entries + 1
  | .held _ => 1
def uptoBulkAll {H : Type} : List (DataW H) → Nat
  | [] => 0
  | d :: r => uptoBulk d + uptoBulkAll r
def uptoBulkEntries {H : Type} : List (Lit × DataW H) → Nat
  | [] => 0
  | x :: r => uptoBulkEntry x + uptoBulkEntries r
def uptoBulkEntry {H : Type} : Lit × DataW H → Nat
  | (.string bytes, d) => bytes.length + uptoBulk d + 1
  | (_, d) => uptoBulk d + 1
 end
def uptoSmall : (H : Type) → List (DataW H) → Bool := fun _ ds => decide (uptoBulkAll ds ≤ 1048576)
def OpenSpec.upto (s : _root_.Go.ChangeSpec) : _root_.Go.OpenSpec := { _root_.Go.OpenSpec.ofChange s with cond := some uptoSmall }

/-- 'telltalelaw24.SorterDoes', WHERE WHAT IT READS IS OF BULK AT MOST 1048576: true; the input reads as it did. -/
def sorterDoesUptoRow : OpenClaim := { program := "ytanahlngkociaaa", sum := "e612f38f8211acae677246fe86b0a058786b111115ace19093277f5915b713a2", func := "telltale/telltalelaw24.SorterDoes", spec := "sorterDoes", unfollowed := true, recurses := true, apart := false, narrowed := true }
def SorterDoesUptoSaid : Prop := sorterDoesUptoRow.holds Try.pinned (OpenSpec.upto sorterDoesSpec)

/-- 'telltalelaw24.SorterHeaps', WHERE WHAT IT READS IS OF BULK AT MOST 1048576: true; the input reads as it did. -/
def sorterHeapsUptoRow : OpenClaim := { program := "ytanahlngkociaaa", sum := "e612f38f8211acae677246fe86b0a058786b111115ace19093277f5915b713a2", func := "telltale/telltalelaw24.SorterHeaps", spec := "sorterHeaps", unfollowed := true, recurses := true, apart := false, narrowed := true }
def SorterHeapsUptoSaid : Prop := sorterHeapsUptoRow.holds Try.pinned (OpenSpec.upto sorterHeapsSpec)

/-- 'telltalelaw24.SorterFine', WHERE WHAT IT READS IS OF BULK AT MOST 1048576: true; the input reads as it did. -/
def sorterFineUptoRow : OpenClaim := { program := "ytanahlngkociaaa", sum := "e612f38f8211acae677246fe86b0a058786b111115ace19093277f5915b713a2", func := "telltale/telltalelaw24.SorterFine", spec := "sorterFine", unfollowed := true, recurses := true, apart := false, narrowed := true }
def SorterFineUptoSaid : Prop := sorterFineUptoRow.holds Try.pinned (OpenSpec.upto sorterFineSpec)

/-- 'telltalelaw24.SorterOrder', WHERE WHAT IT READS IS OF BULK AT MOST 1048576: true; the input reads as it did. -/
def sorterOrderUptoRow : OpenClaim := { program := "ytanahlngkociaaa", sum := "e612f38f8211acae677246fe86b0a058786b111115ace19093277f5915b713a2", func := "telltale/telltalelaw24.SorterOrder", spec := "sorterOrder", unfollowed := true, recurses := true, apart := false, narrowed := true }
def SorterOrderUptoSaid : Prop := sorterOrderUptoRow.holds Try.pinned (OpenSpec.upto sorterOrderSpec)

end Rows
end Go.Proofs.Ytanahlngkociaaa
