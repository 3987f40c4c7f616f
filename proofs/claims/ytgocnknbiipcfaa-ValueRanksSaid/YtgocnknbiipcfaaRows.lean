/-
  No cell of these rows narrows 'for every input' (looked for: loops, veiled, ifaces, maps, wideKeys, modest, calm, conditions, laid).
  DERIVED. THE GIVEN ROWS OF THIS SEAT. 5 by the template 'for every input the law returns true; each argument reads behind the call as it read before'; 0 by the template 'total and deterministic' (their statements: YtgocnknbiipcfaaTotals.lean).
  GIVEN WITH THE SEED: the statements are not yours to turn. If you find one false, say at which input.
  Laid BY PROGRAM, IN A SANDBOX (cutbox-rows.mjs): the forced cells as the released guide's own fill.sh prints them over the translation afa4ef9c56ffbf5c… (all of the seat's roots in one cut). By AI agents, Wed Nov 11 2026. No macro, syntax, notation, axiom, sorry.
-/
import Derived.Test.YtgocnknbiipcfaaChecked
import GoSem.Claim
import GoSem.ClaimJoined
import GoSem.ClaimMapViews
import Derived.JoinedTies
import Derived.KernelRfl
namespace Go.Proofs.Ytgocnknbiipcfaa
/- THE CELL 'sum', in the pinned program and in every row, IS THE sha256 OF THE DUMP (.gsa) THAT YtgocnknbiipcfaaProg.lean LOADS. Nothing in Lean hashes anything: it is a label: what it is worth is what the hold of that sum in a sandbox is worth. -/
noncomputable def Try.pinned : Pinned := { name := "ytgocnknbiipcfaa", sum := "afa4ef9c56ffbf5c5f59e6334e34536a5b1c95ff6003bbb8fbe952d75e332cdd", checked := Try.checked }
namespace Rows
def none {H : Type} : Left H := { results := [], args := [] }

/-- 'telltalelaw04.ValueChecks': WHATEVER THE INPUT: true; the input reads as it did. -/
def valueChecksSpec : ChangeSpec := { name := "valueChecks", fn := fun _ => fun
  | [d1, d2, d3] => { results := [.lit (.bool true)], args := [d1, d2, d3] }
  | _ => none }
def valueChecksRow : OpenClaim := { program := "ytgocnknbiipcfaa", sum := "afa4ef9c56ffbf5c5f59e6334e34536a5b1c95ff6003bbb8fbe952d75e332cdd", func := "telltale/telltalelaw04.ValueChecks", spec := "valueChecks", inPlace := ["math.Float64frombits"], unfollowed := true, recurses := true, apart := false }
def ValueChecksSaid : Prop := valueChecksRow.holds Try.pinned (OpenSpec.ofChange valueChecksSpec)

/-- ITS FALSE NEIGHBOUR: 'it returns false'. Refute it at one input. -/
def valueChecksWrong : ChangeSpec := { name := "valueChecks", fn := fun _ => fun
  | [d1, d2, d3] => { results := [.lit (.bool false)], args := [d1, d2, d3] }
  | _ => none }
def ValueChecksWrongFalsely : Prop := valueChecksRow.holds Try.pinned (OpenSpec.ofChange valueChecksWrong)

/-- 'telltalelaw04.ValueTakes': WHATEVER THE INPUT: true; the input reads as it did. -/
def valueTakesSpec : ChangeSpec := { name := "valueTakes", fn := fun _ => fun
  | [d1, d2] => { results := [.lit (.bool true)], args := [d1, d2] }
  | _ => none }
def valueTakesRow : OpenClaim := { program := "ytgocnknbiipcfaa", sum := "afa4ef9c56ffbf5c5f59e6334e34536a5b1c95ff6003bbb8fbe952d75e332cdd", func := "telltale/telltalelaw04.ValueTakes", spec := "valueTakes", inPlace := ["math.Float64frombits"], unfollowed := true, recurses := true, apart := false }
def ValueTakesSaid : Prop := valueTakesRow.holds Try.pinned (OpenSpec.ofChange valueTakesSpec)

/-- ITS FALSE NEIGHBOUR: 'it returns false'. Refute it at one input. -/
def valueTakesWrong : ChangeSpec := { name := "valueTakes", fn := fun _ => fun
  | [d1, d2] => { results := [.lit (.bool false)], args := [d1, d2] }
  | _ => none }
def ValueTakesWrongFalsely : Prop := valueTakesRow.holds Try.pinned (OpenSpec.ofChange valueTakesWrong)

/-- 'telltalelaw04.ValueMakes': WHATEVER THE INPUT: true; the input reads as it did. -/
def valueMakesSpec : ChangeSpec := { name := "valueMakes", fn := fun _ => fun
  | [d1, d2, d3] => { results := [.lit (.bool true)], args := [d1, d2, d3] }
  | _ => none }
def valueMakesRow : OpenClaim := { program := "ytgocnknbiipcfaa", sum := "afa4ef9c56ffbf5c5f59e6334e34536a5b1c95ff6003bbb8fbe952d75e332cdd", func := "telltale/telltalelaw04.ValueMakes", spec := "valueMakes", inPlace := ["math.Float64frombits"], unfollowed := true, recurses := true, apart := false }
def ValueMakesSaid : Prop := valueMakesRow.holds Try.pinned (OpenSpec.ofChange valueMakesSpec)

/-- ITS FALSE NEIGHBOUR: 'it returns false'. Refute it at one input. -/
def valueMakesWrong : ChangeSpec := { name := "valueMakes", fn := fun _ => fun
  | [d1, d2, d3] => { results := [.lit (.bool false)], args := [d1, d2, d3] }
  | _ => none }
def ValueMakesWrongFalsely : Prop := valueMakesRow.holds Try.pinned (OpenSpec.ofChange valueMakesWrong)

/-- 'telltalelaw04.ValueBack': WHATEVER THE INPUT: true; the input reads as it did. -/
def valueBackSpec : ChangeSpec := { name := "valueBack", fn := fun _ => fun
  | [d1, d2, d3] => { results := [.lit (.bool true)], args := [d1, d2, d3] }
  | _ => none }
def valueBackRow : OpenClaim := { program := "ytgocnknbiipcfaa", sum := "afa4ef9c56ffbf5c5f59e6334e34536a5b1c95ff6003bbb8fbe952d75e332cdd", func := "telltale/telltalelaw04.ValueBack", spec := "valueBack", inPlace := ["math.Float64frombits"], unfollowed := true, recurses := true, apart := false }
def ValueBackSaid : Prop := valueBackRow.holds Try.pinned (OpenSpec.ofChange valueBackSpec)

/-- ITS FALSE NEIGHBOUR: 'it returns false'. Refute it at one input. -/
def valueBackWrong : ChangeSpec := { name := "valueBack", fn := fun _ => fun
  | [d1, d2, d3] => { results := [.lit (.bool false)], args := [d1, d2, d3] }
  | _ => none }
def ValueBackWrongFalsely : Prop := valueBackRow.holds Try.pinned (OpenSpec.ofChange valueBackWrong)

/-- 'telltalelaw04.ValueRanks': WHATEVER THE INPUT: true; the input reads as it did. -/
def valueRanksSpec : ChangeSpec := { name := "valueRanks", fn := fun _ => fun
  | [d] => { results := [.lit (.bool true)], args := [d] }
  | _ => none }
def valueRanksRow : OpenClaim := { program := "ytgocnknbiipcfaa", sum := "afa4ef9c56ffbf5c5f59e6334e34536a5b1c95ff6003bbb8fbe952d75e332cdd", func := "telltale/telltalelaw04.ValueRanks", spec := "valueRanks", inPlace := ["math.Float64frombits"], unfollowed := true, recurses := true, apart := false }
def ValueRanksSaid : Prop := valueRanksRow.holds Try.pinned (OpenSpec.ofChange valueRanksSpec)

/-- ITS FALSE NEIGHBOUR: 'it returns false'. Refute it at one input. -/
def valueRanksWrong : ChangeSpec := { name := "valueRanks", fn := fun _ => fun
  | [d] => { results := [.lit (.bool false)], args := [d] }
  | _ => none }
def ValueRanksWrongFalsely : Prop := valueRanksRow.holds Try.pinned (OpenSpec.ofChange valueRanksWrong)

/- THE SECOND FORM. 'bulk': how many values and letters a reading holds, each counted each time it is reached (what is shared counts as often as it is met; a slice's spare places count too). A statement '..UptoSaid' is the law's where the arguments, and the package variables that the reading takes, are together of bulk at most 1048576: NARROWER than '..Said'. Prove '..Said' where nothing that the law and all that it calls make is longer than what came in: it says more and counts as full. Else prove '..UptoSaid'. A law counts once. -/
mutual
def uptoBulk {H : Type} : DataW H → Nat
  | .lit (.string bytes) => bytes.length + 1
  | .lit _ => 1
  | .nil => 1
  | .ptr d => uptoBulk d + 1
  | .slice elems spare => uptoBulkAll elems + uptoBulkAll spare + 1
  | .agg parts => uptoBulkAll parts + 1
  | .iface _ d => uptoBulk d + 1
  | .map entries => uptoBulkEntries entries + 1
  | .held _ => 1
def uptoBulkAll {H : Type} : List (DataW H) → Nat
  | [] => 0
  | d :: r => uptoBulk d + uptoBulkAll r
def uptoBulkEntries {H : Type} : List (Lit × DataW H) → Nat
  | [] => 0
  | x :: r => uptoBulkEntry x + uptoBulkEntries r
def uptoBulkEntry {H : Type} : Lit × DataW H → Nat
  | (.string bytes, d) => bytes.length + uptoBulk d + 1
  | (_, d) => uptoBulk d + 1
 end
def uptoSmall : (H : Type) → List (DataW H) → Bool := fun _ ds => decide (uptoBulkAll ds ≤ 1048576)
def OpenSpec.upto (s : _root_.Go.ChangeSpec) : _root_.Go.OpenSpec := { _root_.Go.OpenSpec.ofChange s with cond := some uptoSmall }

/-- 'telltalelaw04.ValueChecks', WHERE WHAT IT READS IS OF BULK AT MOST 1048576: true; the input reads as it did. -/
def valueChecksUptoRow : OpenClaim := { program := "ytgocnknbiipcfaa", sum := "afa4ef9c56ffbf5c5f59e6334e34536a5b1c95ff6003bbb8fbe952d75e332cdd", func := "telltale/telltalelaw04.ValueChecks", spec := "valueChecks", inPlace := ["math.Float64frombits"], unfollowed := true, recurses := true, apart := false, narrowed := true }
def ValueChecksUptoSaid : Prop := valueChecksUptoRow.holds Try.pinned (OpenSpec.upto valueChecksSpec)

/-- 'telltalelaw04.ValueTakes', WHERE WHAT IT READS IS OF BULK AT MOST 1048576: true; the input reads as it did. -/
def valueTakesUptoRow : OpenClaim := { program := "ytgocnknbiipcfaa", sum := "afa4ef9c56ffbf5c5f59e6334e34536a5b1c95ff6003bbb8fbe952d75e332cdd", func := "telltale/telltalelaw04.ValueTakes", spec := "valueTakes", inPlace := ["math.Float64frombits"], unfollowed := true, recurses := true, apart := false, narrowed := true }
def ValueTakesUptoSaid : Prop := valueTakesUptoRow.holds Try.pinned (OpenSpec.upto valueTakesSpec)

/-- 'telltalelaw04.ValueMakes', WHERE WHAT IT READS IS OF BULK AT MOST 1048576: true; the input reads as it did. -/
def valueMakesUptoRow : OpenClaim := { program := "ytgocnknbiipcfaa", sum := "afa4ef9c56ffbf5c5f59e6334e34536a5b1c95ff6003bbb8fbe952d75e332cdd", func := "telltale/telltalelaw04.ValueMakes", spec := "valueMakes", inPlace := ["math.Float64frombits"], unfollowed := true, recurses := true, apart := false, narrowed := true }
def ValueMakesUptoSaid : Prop := valueMakesUptoRow.holds Try.pinned (OpenSpec.upto valueMakesSpec)

/-- 'telltalelaw04.ValueBack', WHERE WHAT IT READS IS OF BULK AT MOST 1048576: true; the input reads as it did. -/
def valueBackUptoRow : OpenClaim := { program := "ytgocnknbiipcfaa", sum := "afa4ef9c56ffbf5c5f59e6334e34536a5b1c95ff6003bbb8fbe952d75e332cdd", func := "telltale/telltalelaw04.ValueBack", spec := "valueBack", inPlace := ["math.Float64frombits"], unfollowed := true, recurses := true, apart := false, narrowed := true }
def ValueBackUptoSaid : Prop := valueBackUptoRow.holds Try.pinned (OpenSpec.upto valueBackSpec)

/-- 'telltalelaw04.ValueRanks', WHERE WHAT IT READS IS OF BULK AT MOST 1048576: true; the input reads as it did. -/
def valueRanksUptoRow : OpenClaim := { program := "ytgocnknbiipcfaa", sum := "afa4ef9c56ffbf5c5f59e6334e34536a5b1c95ff6003bbb8fbe952d75e332cdd", func := "telltale/telltalelaw04.ValueRanks", spec := "valueRanks", inPlace := ["math.Float64frombits"], unfollowed := true, recurses := true, apart := false, narrowed := true }
def ValueRanksUptoSaid : Prop := valueRanksUptoRow.holds Try.pinned (OpenSpec.upto valueRanksSpec)

end Rows
end Go.Proofs.Ytgocnknbiipcfaa
