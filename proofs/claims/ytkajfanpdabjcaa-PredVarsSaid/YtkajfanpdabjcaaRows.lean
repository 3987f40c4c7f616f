/-
  No cell of these rows narrows 'for every input' (looked for: loops, veiled, ifaces, maps, wideKeys, modest, calm, conditions, laid).
  DERIVED. THE GIVEN ROWS OF THIS SEAT. 4 by the template 'for every input the law returns true; each argument reads behind the call as it read before'; 0 by the template 'total and deterministic' (their statements: YtkajfanpdabjcaaTotals.lean).
  GIVEN WITH THE SEED: the statements are not yours to turn. If you find one false, say at which input.
  Laid BY PROGRAM, IN A SANDBOX (cutbox-rows.mjs): the forced cells as the released guide's own fill.sh prints them over the translation 1cb5d116dbdb9069… (all of the seat's roots in one cut). By AI agents, Wed Nov 11 2026. No macro, syntax, notation, axiom, sorry.
-/
import Derived.Test.YtkajfanpdabjcaaChecked
import GoSem.Claim
import GoSem.ClaimJoined
import GoSem.ClaimMapViews
import Derived.JoinedTies
import Derived.KernelRfl
namespace Go.Proofs.Ytkajfanpdabjcaa
/- THE CELL 'sum', in the pinned program and in every row, IS THE sha256 OF THE DUMP (.gsa) THAT YtkajfanpdabjcaaProg.lean LOADS. Nothing in Lean hashes anything: it is a label: what it is worth is what the hold of that sum in a sandbox is worth. -/
noncomputable def Try.pinned : Pinned := { name := "ytkajfanpdabjcaa", sum := "1cb5d116dbdb906904446f5c45cc6b8ef09f0083468e69adb7ed4580e8651a9f", checked := Try.checked }
namespace Rows
def none {H : Type} : Left H := { results := [], args := [] }

/-- 'telltalelaw11.PredTells': WHATEVER THE INPUT: true; the input reads as it did. -/
def predTellsSpec : ChangeSpec := { name := "predTells", fn := fun _ => fun
  | [d1, d2] => { results := [.lit (.bool true)], args := [d1, d2] }
  | _ => none }
def predTellsRow : OpenClaim := { program := "ytkajfanpdabjcaa", sum := "1cb5d116dbdb906904446f5c45cc6b8ef09f0083468e69adb7ed4580e8651a9f", func := "telltale/telltalelaw11.PredTells", spec := "predTells", inPlace := ["math.Float64frombits", "internal/abi.NoEscape"], unfollowed := true, recurses := true, apart := false }
def PredTellsSaid : Prop := predTellsRow.holds Try.pinned (OpenSpec.ofChange predTellsSpec)

/-- ITS FALSE NEIGHBOUR: 'it returns false'. Refute it at one input. -/
def predTellsWrong : ChangeSpec := { name := "predTells", fn := fun _ => fun
  | [d1, d2] => { results := [.lit (.bool false)], args := [d1, d2] }
  | _ => none }
def PredTellsWrongFalsely : Prop := predTellsRow.holds Try.pinned (OpenSpec.ofChange predTellsWrong)

/-- 'telltalelaw11.PredTrees': WHATEVER THE INPUT: true; the input reads as it did. -/
def predTreesSpec : ChangeSpec := { name := "predTrees", fn := fun _ => fun
  | [d] => { results := [.lit (.bool true)], args := [d] }
  | _ => none }
def predTreesRow : OpenClaim := { program := "ytkajfanpdabjcaa", sum := "1cb5d116dbdb906904446f5c45cc6b8ef09f0083468e69adb7ed4580e8651a9f", func := "telltale/telltalelaw11.PredTrees", spec := "predTrees", inPlace := ["math.Float64frombits", "internal/abi.NoEscape"], unfollowed := true, recurses := true, apart := false }
def PredTreesSaid : Prop := predTreesRow.holds Try.pinned (OpenSpec.ofChange predTreesSpec)

/-- ITS FALSE NEIGHBOUR: 'it returns false'. Refute it at one input. -/
def predTreesWrong : ChangeSpec := { name := "predTrees", fn := fun _ => fun
  | [d] => { results := [.lit (.bool false)], args := [d] }
  | _ => none }
def PredTreesWrongFalsely : Prop := predTreesRow.holds Try.pinned (OpenSpec.ofChange predTreesWrong)

/-- 'telltalelaw11.PredJoins': WHATEVER THE INPUT: true; the input reads as it did. -/
def predJoinsSpec : ChangeSpec := { name := "predJoins", fn := fun _ => fun
  | [d1, d2] => { results := [.lit (.bool true)], args := [d1, d2] }
  | _ => none }
def predJoinsRow : OpenClaim := { program := "ytkajfanpdabjcaa", sum := "1cb5d116dbdb906904446f5c45cc6b8ef09f0083468e69adb7ed4580e8651a9f", func := "telltale/telltalelaw11.PredJoins", spec := "predJoins", inPlace := ["math.Float64frombits", "internal/abi.NoEscape"], unfollowed := true, recurses := true, apart := false }
def PredJoinsSaid : Prop := predJoinsRow.holds Try.pinned (OpenSpec.ofChange predJoinsSpec)

/-- ITS FALSE NEIGHBOUR: 'it returns false'. Refute it at one input. -/
def predJoinsWrong : ChangeSpec := { name := "predJoins", fn := fun _ => fun
  | [d1, d2] => { results := [.lit (.bool false)], args := [d1, d2] }
  | _ => none }
def PredJoinsWrongFalsely : Prop := predJoinsRow.holds Try.pinned (OpenSpec.ofChange predJoinsWrong)

/-- 'telltalelaw11.PredVars': WHATEVER THE INPUT: true; the input reads as it did. -/
def predVarsSpec : ChangeSpec := { name := "predVars", fn := fun _ => fun
  | [d1, d2] => { results := [.lit (.bool true)], args := [d1, d2] }
  | _ => none }
def predVarsRow : OpenClaim := { program := "ytkajfanpdabjcaa", sum := "1cb5d116dbdb906904446f5c45cc6b8ef09f0083468e69adb7ed4580e8651a9f", func := "telltale/telltalelaw11.PredVars", spec := "predVars", inPlace := ["math.Float64frombits", "internal/abi.NoEscape"], unfollowed := true, recurses := true, apart := false }
def PredVarsSaid : Prop := predVarsRow.holds Try.pinned (OpenSpec.ofChange predVarsSpec)

/-- ITS FALSE NEIGHBOUR: 'it returns false'. Refute it at one input. -/
def predVarsWrong : ChangeSpec := { name := "predVars", fn := fun _ => fun
  | [d1, d2] => { results := [.lit (.bool false)], args := [d1, d2] }
  | _ => none }
def PredVarsWrongFalsely : Prop := predVarsRow.holds Try.pinned (OpenSpec.ofChange predVarsWrong)

/- THE SECOND FORM. 'bulk': how many values and letters a reading holds, each counted each time it is reached (what is shared counts as often as it is met; a slice's spare places count too). A statement '..UptoSaid' is the law's where the arguments, and the package variables that the reading takes, are together of bulk at most 1048576: NARROWER than '..Said'. Prove '..Said' where nothing that the law and all that it calls make is longer than what came in: it says more and counts as full. Else prove '..UptoSaid'. A law counts once. -/
mutual
def uptoBulk {H : Type} : DataW H → Nat
  | .lit (.string bytes) => bytes.length + 1
  | .lit _ => 1
  | .nil => 1
  | .ptr d => uptoBulk d + 1
  | .slice elems spare => uptoBulkAll elems + uptoBulkAll spare + 1
  | .agg parts => uptoBulkAll parts + 1
  | .iface _ d => uptoBulk d + 1
  | .map entries => uptoBulkEntries entries + 1
  | .held _ => 1
def uptoBulkAll {H : Type} : List (DataW H) → Nat
  | [] => 0
  | d :: r => uptoBulk d + uptoBulkAll r
def uptoBulkEntries {H : Type} : List (Lit × DataW H) → Nat
  | [] => 0
  | x :: r => uptoBulkEntry x + uptoBulkEntries r
def uptoBulkEntry {H : Type} : Lit × DataW H → Nat
  | (.string bytes, d) => bytes.length + uptoBulk d + 1
  | (_, d) => uptoBulk d + 1
 end
def uptoSmall : (H : Type) → List (DataW H) → Bool := fun _ ds => decide (uptoBulkAll ds ≤ 1048576)
def OpenSpec.upto (s : _root_.Go.ChangeSpec) : _root_.Go.OpenSpec := { _root_.Go.OpenSpec.ofChange s with cond := some uptoSmall }

/-- 'telltalelaw11.PredTells', WHERE WHAT IT READS IS OF BULK AT MOST 1048576: true; the input reads as it did. -/
def predTellsUptoRow : OpenClaim := { program := "ytkajfanpdabjcaa", sum := "1cb5d116dbdb906904446f5c45cc6b8ef09f0083468e69adb7ed4580e8651a9f", func := "telltale/telltalelaw11.PredTells", spec := "predTells", inPlace := ["math.Float64frombits", "internal/abi.NoEscape"], unfollowed := true, recurses := true, apart := false, narrowed := true }
def PredTellsUptoSaid : Prop := predTellsUptoRow.holds Try.pinned (OpenSpec.upto predTellsSpec)

/-- 'telltalelaw11.PredTrees', WHERE WHAT IT READS IS OF BULK AT MOST 1048576: true; the input reads as it did. -/
def predTreesUptoRow : OpenClaim := { program := "ytkajfanpdabjcaa", sum := "1cb5d116dbdb906904446f5c45cc6b8ef09f0083468e69adb7ed4580e8651a9f", func := "telltale/telltalelaw11.PredTrees", spec := "predTrees", inPlace := ["math.Float64frombits", "internal/abi.NoEscape"], unfollowed := true, recurses := true, apart := false, narrowed := true }
def PredTreesUptoSaid : Prop := predTreesUptoRow.holds Try.pinned (OpenSpec.upto predTreesSpec)

/-- 'telltalelaw11.PredJoins', WHERE WHAT IT READS IS OF BULK AT MOST 1048576: true; the input reads as it did. -/
def predJoinsUptoRow : OpenClaim := { program := "ytkajfanpdabjcaa", sum := "1cb5d116dbdb906904446f5c45cc6b8ef09f0083468e69adb7ed4580e8651a9f", func := "telltale/telltalelaw11.PredJoins", spec := "predJoins", inPlace := ["math.Float64frombits", "internal/abi.NoEscape"], unfollowed := true, recurses := true, apart := false, narrowed := true }
def PredJoinsUptoSaid : Prop := predJoinsUptoRow.holds Try.pinned (OpenSpec.upto predJoinsSpec)

/-- 'telltalelaw11.PredVars', WHERE WHAT IT READS IS OF BULK AT MOST 1048576: true; the input reads as it did. -/
def predVarsUptoRow : OpenClaim := { program := "ytkajfanpdabjcaa", sum := "1cb5d116dbdb906904446f5c45cc6b8ef09f0083468e69adb7ed4580e8651a9f", func := "telltale/telltalelaw11.PredVars", spec := "predVars", inPlace := ["math.Float64frombits", "internal/abi.NoEscape"], unfollowed := true, recurses := true, apart := false, narrowed := true }
def PredVarsUptoSaid : Prop := predVarsUptoRow.holds Try.pinned (OpenSpec.upto predVarsSpec)

end Rows
end Go.Proofs.Ytkajfanpdabjcaa
