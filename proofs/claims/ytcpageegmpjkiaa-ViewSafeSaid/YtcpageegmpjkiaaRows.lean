/-
  No cell of these rows narrows 'for every input' (looked for: loops, veiled, ifaces, maps, wideKeys, modest, calm, conditions, laid).
  DERIVED. THE GIVEN ROWS OF THIS SEAT. 3 by the template 'for every input the law returns true; each argument reads behind the call as it read before'; 0 by the template 'total and deterministic' (their statements: YtcpageegmpjkiaaTotals.lean).
  GIVEN WITH THE SEED: the statements are not yours to turn. If you find one false, say at which input.
  Laid BY PROGRAM, IN A SANDBOX (cutbox-rows.mjs): the forced cells as the released guide's own fill.sh prints them over the translation d6bd5f08f52c8498… (all of the seat's roots in one cut). By AI agents, Wed Nov 11 2026. No macro, syntax, notation, axiom, sorry.
-/
import Derived.Test.YtcpageegmpjkiaaChecked
import GoSem.Claim
import GoSem.ClaimJoined
import GoSem.ClaimMapViews
import Derived.JoinedTies
import Derived.KernelRfl
namespace Go.Proofs.Ytcpageegmpjkiaa
/- THE CELL 'sum', in the pinned program and in every row, IS THE sha256 OF THE DUMP (.gsa) THAT YtcpageegmpjkiaaProg.lean LOADS. Nothing in Lean hashes anything: it is a label: what it is worth is what the hold of that sum in a sandbox is worth. -/
noncomputable def Try.pinned : Pinned := { name := "ytcpageegmpjkiaa", sum := "d6bd5f08f52c849852db5ec26b2e9c9e2212daf01723abbc7637d56cf23045e5", checked := Try.checked }
namespace Rows
def none {H : Type} : Left H := { results := [], args := [] }

/-- 'telltalelaw29.ViewDoes': WHATEVER THE INPUT: true; the input reads as it did. -/
def viewDoesSpec : ChangeSpec := { name := "viewDoes", fn := fun _ => fun
  | [d1, d2, d3] => { results := [.lit (.bool true)], args := [d1, d2, d3] }
  | _ => none }
def viewDoesRow : OpenClaim := { program := "ytcpageegmpjkiaa", sum := "d6bd5f08f52c849852db5ec26b2e9c9e2212daf01723abbc7637d56cf23045e5", func := "telltale/telltalelaw29.ViewDoes", spec := "viewDoes", inPlace := ["maps.clone"], unfollowed := true, recurses := true, plainKeys := false, apart := false }
def ViewDoesSaid : Prop := viewDoesRow.holds Try.pinned (OpenSpec.ofChange viewDoesSpec)

/-- ITS FALSE NEIGHBOUR: 'it returns false'. Refute it at one input. -/
def viewDoesWrong : ChangeSpec := { name := "viewDoes", fn := fun _ => fun
  | [d1, d2, d3] => { results := [.lit (.bool false)], args := [d1, d2, d3] }
  | _ => none }
def ViewDoesWrongFalsely : Prop := viewDoesRow.holds Try.pinned (OpenSpec.ofChange viewDoesWrong)

/-- 'telltalelaw29.ViewTruth': WHATEVER THE INPUT: true; the input reads as it did. -/
def viewTruthSpec : ChangeSpec := { name := "viewTruth", fn := fun _ => fun
  | [d1, d2, d3] => { results := [.lit (.bool true)], args := [d1, d2, d3] }
  | _ => none }
def viewTruthRow : OpenClaim := { program := "ytcpageegmpjkiaa", sum := "d6bd5f08f52c849852db5ec26b2e9c9e2212daf01723abbc7637d56cf23045e5", func := "telltale/telltalelaw29.ViewTruth", spec := "viewTruth", inPlace := ["maps.clone"], unfollowed := true, recurses := true, plainKeys := false, apart := false }
def ViewTruthSaid : Prop := viewTruthRow.holds Try.pinned (OpenSpec.ofChange viewTruthSpec)

/-- ITS FALSE NEIGHBOUR: 'it returns false'. Refute it at one input. -/
def viewTruthWrong : ChangeSpec := { name := "viewTruth", fn := fun _ => fun
  | [d1, d2, d3] => { results := [.lit (.bool false)], args := [d1, d2, d3] }
  | _ => none }
def ViewTruthWrongFalsely : Prop := viewTruthRow.holds Try.pinned (OpenSpec.ofChange viewTruthWrong)

/-- 'telltalelaw29.ViewSafe': WHATEVER THE INPUT: true; the input reads as it did. -/
def viewSafeSpec : ChangeSpec := { name := "viewSafe", fn := fun _ => fun
  | [d1, d2] => { results := [.lit (.bool true)], args := [d1, d2] }
  | _ => none }
def viewSafeRow : OpenClaim := { program := "ytcpageegmpjkiaa", sum := "d6bd5f08f52c849852db5ec26b2e9c9e2212daf01723abbc7637d56cf23045e5", func := "telltale/telltalelaw29.ViewSafe", spec := "viewSafe", inPlace := ["maps.clone"], unfollowed := true, recurses := true, plainKeys := false, apart := false }
def ViewSafeSaid : Prop := viewSafeRow.holds Try.pinned (OpenSpec.ofChange viewSafeSpec)

/-- ITS FALSE NEIGHBOUR: 'it returns false'. Refute it at one input. -/
def viewSafeWrong : ChangeSpec := { name := "viewSafe", fn := fun _ => fun
  | [d1, d2] => { results := [.lit (.bool false)], args := [d1, d2] }
  | _ => none }
def ViewSafeWrongFalsely : Prop := viewSafeRow.holds Try.pinned (OpenSpec.ofChange viewSafeWrong)

/- THE SECOND FORM. 'bulk': how many values and letters a reading holds, each counted each time it is reached (what is shared counts as often as it is met; a slice's spare places count too). A statement '..UptoSaid' is the law's where the arguments, and the package variables that the reading takes, are together of bulk at most 1048576: NARROWER than '..Said'. Prove '..Said' where nothing that the law and all that it calls make is longer than what came in: it says more and counts as full. Else prove '..UptoSaid'. A law counts once. -/
mutual
def uptoBulk {H : Type} : DataW H → Nat
  | .lit (.string bytes) => bytes.length + 1
  | .lit _ => 1
  | .nil => 1
  | .ptr d => uptoBulk d + 1
  | .slice elems spare => uptoBulkAll elems + uptoBulkAll spare + 1
  | .agg parts => uptoBulkAll parts + 1
  | .iface _ d => uptoBulk d + 1
  | .map entries => uptoBulkEntries entries + 1
  | .held _ => 1
def uptoBulkAll {H : Type} : List (DataW H) → Nat
  | [] => 0
  | d :: r => uptoBulk d + uptoBulkAll r
def uptoBulkEntries {H : Type} : List (Lit × DataW H) → Nat
  | [] => 0
  | x :: r => uptoBulkEntry x + uptoBulkEntries r
def uptoBulkEntry {H : Type} : Lit × DataW H → Nat
  | (.string bytes, d) => bytes.length + uptoBulk d + 1
  | (_, d) => uptoBulk d + 1
 end
def uptoSmall : (H : Type) → List (DataW H) → Bool := fun _ ds => decide (uptoBulkAll ds ≤ 1048576)
def OpenSpec.upto (s : _root_.Go.ChangeSpec) : _root_.Go.OpenSpec := { _root_.Go.OpenSpec.ofChange s with cond := some uptoSmall }

/-- 'telltalelaw29.ViewDoes', WHERE WHAT IT READS IS OF BULK AT MOST 1048576: true; the input reads as it did. -/
def viewDoesUptoRow : OpenClaim := { program := "ytcpageegmpjkiaa", sum := "d6bd5f08f52c849852db5ec26b2e9c9e2212daf01723abbc7637d56cf23045e5", func := "telltale/telltalelaw29.ViewDoes", spec := "viewDoes", inPlace := ["maps.clone"], unfollowed := true, recurses := true, plainKeys := false, apart := false, narrowed := true }
def ViewDoesUptoSaid : Prop := viewDoesUptoRow.holds Try.pinned (OpenSpec.upto viewDoesSpec)

/-- 'telltalelaw29.ViewTruth', WHERE WHAT IT READS IS OF BULK AT MOST 1048576: true; the input reads as it did. -/
def viewTruthUptoRow : OpenClaim := { program := "ytcpageegmpjkiaa", sum := "d6bd5f08f52c849852db5ec26b2e9c9e2212daf01723abbc7637d56cf23045e5", func := "telltale/telltalelaw29.ViewTruth", spec := "viewTruth", inPlace := ["maps.clone"], unfollowed := true, recurses := true, plainKeys := false, apart := false, narrowed := true }
def ViewTruthUptoSaid : Prop := viewTruthUptoRow.holds Try.pinned (OpenSpec.upto viewTruthSpec)

/-- 'telltalelaw29.ViewSafe', WHERE WHAT IT READS IS OF BULK AT MOST 1048576: true; the input reads as it did. -/
def viewSafeUptoRow : OpenClaim := { program := "ytcpageegmpjkiaa", sum := "d6bd5f08f52c849852db5ec26b2e9c9e2212daf01723abbc7637d56cf23045e5", func := "telltale/telltalelaw29.ViewSafe", spec := "viewSafe", inPlace := ["maps.clone"], unfollowed := true, recurses := true, plainKeys := false, apart := false, narrowed := true }
def ViewSafeUptoSaid : Prop := viewSafeUptoRow.holds Try.pinned (OpenSpec.upto viewSafeSpec)

end Rows
end Go.Proofs.Ytcpageegmpjkiaa
