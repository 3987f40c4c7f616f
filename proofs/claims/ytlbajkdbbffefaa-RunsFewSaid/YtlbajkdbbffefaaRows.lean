/-
  No cell of these rows narrows 'for every input' (looked for: loops, veiled, ifaces, maps, wideKeys, modest, calm, conditions, laid).
  DERIVED. THE GIVEN ROWS OF THIS SEAT. 3 by the template 'for every input the law returns true; each argument reads behind the call as it read before'; 0 by the template 'total and deterministic' (their statements: YtlbajkdbbffefaaTotals.lean).
  GIVEN WITH THE SEED: the statements are not yours to turn. If you find one false, say at which input.
  Laid BY PROGRAM, IN A SANDBOX (cutbox-rows.mjs): the forced cells as the released guide's own fill.sh prints them over the translation e65a7f3b1405826b… (all of the seat's roots in one cut). By AI agents, Wed Nov 11 2026. No macro, syntax, notation, axiom, sorry.
-/
import Derived.Test.YtlbajkdbbffefaaChecked
import GoSem.Claim
import GoSem.ClaimJoined
import GoSem.ClaimMapViews
import Derived.JoinedTies
import Derived.KernelRfl
namespace Go.Proofs.Ytlbajkdbbffefaa
/- THE CELL 'sum', in the pinned program and in every row, IS THE sha256 OF THE DUMP (.gsa) THAT YtlbajkdbbffefaaProg.lean LOADS. Nothing in Lean hashes anything: it is a label: what it is worth is what the hold of that sum in a sandbox is worth. -/
noncomputable def Try.pinned : Pinned := { name := "ytlbajkdbbffefaa", sum := "e65a7f3b1405826be79828164bd7fd3a482c18bf4e886a9b2495ea42200e7e50", checked := Try.checked }
namespace Rows
def none {H : Type} : Left H := { results := [], args := [] }

/-- 'telltalelaw21.RunsDo': WHATEVER THE INPUT: true; the input reads as it did. -/
def runsDoSpec : ChangeSpec := { name := "runsDo", fn := fun _ => fun
  | [d1, d2, d3] => { results := [.lit (.bool true)], args := [d1, d2, d3] }
  | _ => none }
def runsDoRow : OpenClaim := { program := "ytlbajkdbbffefaa", sum := "e65a7f3b1405826be79828164bd7fd3a482c18bf4e886a9b2495ea42200e7e50", func := "telltale/telltalelaw21.RunsDo", spec := "runsDo", unfollowed := true, recurses := true, apart := false }
def RunsDoSaid : Prop := runsDoRow.holds Try.pinned (OpenSpec.ofChange runsDoSpec)

/-- ITS FALSE NEIGHBOUR: 'it returns false'. Refute it at one input. -/
def runsDoWrong : ChangeSpec := { name := "runsDo", fn := fun _ => fun
  | [d1, d2, d3] => { results := [.lit (.bool false)], args := [d1, d2, d3] }
  | _ => none }
def RunsDoWrongFalsely : Prop := runsDoRow.holds Try.pinned (OpenSpec.ofChange runsDoWrong)

/-- 'telltalelaw21.RunsPrunes': WHATEVER THE INPUT: true; the input reads as it did. -/
def runsPrunesSpec : ChangeSpec := { name := "runsPrunes", fn := fun _ => fun
  | [d1, d2, d3] => { results := [.lit (.bool true)], args := [d1, d2, d3] }
  | _ => none }
def runsPrunesRow : OpenClaim := { program := "ytlbajkdbbffefaa", sum := "e65a7f3b1405826be79828164bd7fd3a482c18bf4e886a9b2495ea42200e7e50", func := "telltale/telltalelaw21.RunsPrunes", spec := "runsPrunes", unfollowed := true, recurses := true, apart := false }
def RunsPrunesSaid : Prop := runsPrunesRow.holds Try.pinned (OpenSpec.ofChange runsPrunesSpec)

/-- ITS FALSE NEIGHBOUR: 'it returns false'. Refute it at one input. -/
def runsPrunesWrong : ChangeSpec := { name := "runsPrunes", fn := fun _ => fun
  | [d1, d2, d3] => { results := [.lit (.bool false)], args := [d1, d2, d3] }
  | _ => none }
def RunsPrunesWrongFalsely : Prop := runsPrunesRow.holds Try.pinned (OpenSpec.ofChange runsPrunesWrong)

/-- 'telltalelaw21.RunsFew': WHATEVER THE INPUT: true; the input reads as it did. -/
def runsFewSpec : ChangeSpec := { name := "runsFew", fn := fun _ => fun
  | [d1, d2, d3] => { results := [.lit (.bool true)], args := [d1, d2, d3] }
  | _ => none }
def runsFewRow : OpenClaim := { program := "ytlbajkdbbffefaa", sum := "e65a7f3b1405826be79828164bd7fd3a482c18bf4e886a9b2495ea42200e7e50", func := "telltale/telltalelaw21.RunsFew", spec := "runsFew", unfollowed := true, recurses := true, apart := false }
def RunsFewSaid : Prop := runsFewRow.holds Try.pinned (OpenSpec.ofChange runsFewSpec)

/-- ITS FALSE NEIGHBOUR: 'it returns false'. Refute it at one input. -/
def runsFewWrong : ChangeSpec := { name := "runsFew", fn := fun _ => fun
  | [d1, d2, d3] => { results := [.lit (.bool false)], args := [d1, d2, d3] }
  | _ => none }
def RunsFewWrongFalsely : Prop := runsFewRow.holds Try.pinned (OpenSpec.ofChange runsFewWrong)

/- THE SECOND FORM. 'bulk': how many values and letters a reading holds, each counted each time it is reached (what is shared counts as often as it is met; a slice's spare places count too). A statement '..UptoSaid' is the law's where the arguments, and the package variables that the reading takes, are together of bulk at most 1048576: NARROWER than '..Said'. Prove '..Said' where nothing that the law and all that it calls make is longer than what came in: it says more and counts as full. Else prove '..UptoSaid'. A law counts once. -/
mutual
def uptoBulk {H : Type} : DataW H → Nat
  | .lit (.string bytes) => bytes.length + 1
  | .lit _ => 1
  | .nil => 1
  | .ptr d => uptoBulk d + 1
  | .slice elems spare => uptoBulkAll elems + uptoBulkAll spare + 1
  | .agg parts => uptoBulkAll parts + 1
  | .iface _ d => uptoBulk d + 1
  | .map entries => uptoBulkEntries entries + 1
  | .held _ => 1
def uptoBulkAll {H : Type} : List (DataW H) → Nat
  | [] => 0
  | d :: r => uptoBulk d + uptoBulkAll r
def uptoBulkEntries {H : Type} : List (Lit × DataW H) → Nat
  | [] => 0
  | x :: r => uptoBulkEntry x + uptoBulkEntries r
def uptoBulkEntry {H : Type} : Lit × DataW H → Nat
  | (.string bytes, d) => bytes.length + uptoBulk d + 1
  | (_, d) => uptoBulk d + 1
 end
def uptoSmall : (H : Type) → List (DataW H) → Bool := fun _ ds => decide (uptoBulkAll ds ≤ 1048576)
def OpenSpec.upto (s : _root_.Go.ChangeSpec) : _root_.Go.OpenSpec := { _root_.Go.OpenSpec.ofChange s with cond := some uptoSmall }

/-- 'telltalelaw21.RunsDo', WHERE WHAT IT READS IS OF BULK AT MOST 1048576: true; the input reads as it did. -/
def runsDoUptoRow : OpenClaim := { program := "ytlbajkdbbffefaa", sum := "e65a7f3b1405826be79828164bd7fd3a482c18bf4e886a9b2495ea42200e7e50", func := "telltale/telltalelaw21.RunsDo", spec := "runsDo", unfollowed := true, recurses := true, apart := false, narrowed := true }
def RunsDoUptoSaid : Prop := runsDoUptoRow.holds Try.pinned (OpenSpec.upto runsDoSpec)

/-- 'telltalelaw21.RunsPrunes', WHERE WHAT IT READS IS OF BULK AT MOST 1048576: true; the input reads as it did. -/
def runsPrunesUptoRow : OpenClaim := { program := "ytlbajkdbbffefaa", sum := "e65a7f3b1405826be79828164bd7fd3a482c18bf4e886a9b2495ea42200e7e50", func := "telltale/telltalelaw21.RunsPrunes", spec := "runsPrunes", unfollowed := true, recurses := true, apart := false, narrowed := true }
def RunsPrunesUptoSaid : Prop := runsPrunesUptoRow.holds Try.pinned (OpenSpec.upto runsPrunesSpec)

/-- 'telltalelaw21.RunsFew', WHERE WHAT IT READS IS OF BULK AT MOST 1048576: true; the input reads as it did. -/
def runsFewUptoRow : OpenClaim := { program := "ytlbajkdbbffefaa", sum := "e65a7f3b1405826be79828164bd7fd3a482c18bf4e886a9b2495ea42200e7e50", func := "telltale/telltalelaw21.RunsFew", spec := "runsFew", unfollowed := true, recurses := true, apart := false, narrowed := true }
def RunsFewUptoSaid : Prop := runsFewUptoRow.holds Try.pinned (OpenSpec.upto runsFewSpec)

end Rows
end Go.Proofs.Ytlbajkdbbffefaa
