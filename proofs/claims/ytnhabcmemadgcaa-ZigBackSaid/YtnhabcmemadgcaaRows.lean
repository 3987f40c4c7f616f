/-
  No cell of these rows narrows 'for every input' (looked for: loops, veiled, ifaces, maps, wideKeys, modest, calm, conditions, laid).
  DERIVED. THE GIVEN ROWS OF THIS SEAT. 4 by the template 'for every input the law returns true; each argument reads behind the call as it read before'; 0 by the template 'total and deterministic' (their statements: YtnhabcmemadgcaaTotals.lean).
  GIVEN WITH THE SEED: the statements are not yours to turn. If you find one false, say at which input.
  Laid BY PROGRAM, IN A SANDBOX (cutbox-rows.mjs): the forced cells as the released guide's own fill.sh prints them over the translation 3605c459baa91754… (all of the seat's roots in one cut). By AI agents, Wed Nov 11 2026. No macro, syntax, notation, axiom, sorry.
-/
import Derived.Test.YtnhabcmemadgcaaChecked
import GoSem.Claim
import GoSem.ClaimJoined
import GoSem.ClaimMapViews
import Derived.JoinedTies
import Derived.KernelRfl
namespace Go.Proofs.Ytnhabcmemadgcaa
/- THE CELL 'sum', in the pinned program and in every row, IS THE sha256 OF THE DUMP (.gsa) THAT YtnhabcmemadgcaaProg.lean LOADS. Nothing in Lean hashes anything: it is a label: what it is worth is what the hold of that sum in a sandbox is worth. -/
noncomputable def Try.pinned : Pinned := { name := "ytnhabcmemadgcaa", sum := "3605c459baa9175414ee2997b3fb3fe5ea34c6db163f1b5825ec8205deee3bcd", checked := Try.checked }
namespace Rows
def none {H : Type} : Left H := { results := [], args := [] }

/-- 'telltalelaw02.ZigFolds': WHATEVER THE INPUT: true; the input reads as it did. -/
def zigFoldsSpec : ChangeSpec := { name := "zigFolds", fn := fun _ => fun
  | [d1, d2] => { results := [.lit (.bool true)], args := [d1, d2] }
  | _ => none }
def zigFoldsRow : OpenClaim := { program := "ytnhabcmemadgcaa", sum := "3605c459baa9175414ee2997b3fb3fe5ea34c6db163f1b5825ec8205deee3bcd", func := "telltale/telltalelaw02.ZigFolds", spec := "zigFolds", apart := false }
def ZigFoldsSaid : Prop := zigFoldsRow.holds Try.pinned (OpenSpec.ofChange zigFoldsSpec)

/-- ITS FALSE NEIGHBOUR: 'it returns false'. Refute it at one input. -/
def zigFoldsWrong : ChangeSpec := { name := "zigFolds", fn := fun _ => fun
  | [d1, d2] => { results := [.lit (.bool false)], args := [d1, d2] }
  | _ => none }
def ZigFoldsWrongFalsely : Prop := zigFoldsRow.holds Try.pinned (OpenSpec.ofChange zigFoldsWrong)

/-- 'telltalelaw02.ZigLays': WHATEVER THE INPUT: true; the input reads as it did. -/
def zigLaysSpec : ChangeSpec := { name := "zigLays", fn := fun _ => fun
  | [d1, d2, d3] => { results := [.lit (.bool true)], args := [d1, d2, d3] }
  | _ => none }
def zigLaysRow : OpenClaim := { program := "ytnhabcmemadgcaa", sum := "3605c459baa9175414ee2997b3fb3fe5ea34c6db163f1b5825ec8205deee3bcd", func := "telltale/telltalelaw02.ZigLays", spec := "zigLays", apart := false }
def ZigLaysSaid : Prop := zigLaysRow.holds Try.pinned (OpenSpec.ofChange zigLaysSpec)

/-- ITS FALSE NEIGHBOUR: 'it returns false'. Refute it at one input. -/
def zigLaysWrong : ChangeSpec := { name := "zigLays", fn := fun _ => fun
  | [d1, d2, d3] => { results := [.lit (.bool false)], args := [d1, d2, d3] }
  | _ => none }
def ZigLaysWrongFalsely : Prop := zigLaysRow.holds Try.pinned (OpenSpec.ofChange zigLaysWrong)

/-- 'telltalelaw02.ZigTakes': WHATEVER THE INPUT: true; the input reads as it did. -/
def zigTakesSpec : ChangeSpec := { name := "zigTakes", fn := fun _ => fun
  | [d1, d2] => { results := [.lit (.bool true)], args := [d1, d2] }
  | _ => none }
def zigTakesRow : OpenClaim := { program := "ytnhabcmemadgcaa", sum := "3605c459baa9175414ee2997b3fb3fe5ea34c6db163f1b5825ec8205deee3bcd", func := "telltale/telltalelaw02.ZigTakes", spec := "zigTakes", apart := false }
def ZigTakesSaid : Prop := zigTakesRow.holds Try.pinned (OpenSpec.ofChange zigTakesSpec)

/-- ITS FALSE NEIGHBOUR: 'it returns false'. Refute it at one input. -/
def zigTakesWrong : ChangeSpec := { name := "zigTakes", fn := fun _ => fun
  | [d1, d2] => { results := [.lit (.bool false)], args := [d1, d2] }
  | _ => none }
def ZigTakesWrongFalsely : Prop := zigTakesRow.holds Try.pinned (OpenSpec.ofChange zigTakesWrong)

/-- 'telltalelaw02.ZigBack': WHATEVER THE INPUT: true; the input reads as it did. -/
def zigBackSpec : ChangeSpec := { name := "zigBack", fn := fun _ => fun
  | [d1, d2, d3] => { results := [.lit (.bool true)], args := [d1, d2, d3] }
  | _ => none }
def zigBackRow : OpenClaim := { program := "ytnhabcmemadgcaa", sum := "3605c459baa9175414ee2997b3fb3fe5ea34c6db163f1b5825ec8205deee3bcd", func := "telltale/telltalelaw02.ZigBack", spec := "zigBack", apart := false }
def ZigBackSaid : Prop := zigBackRow.holds Try.pinned (OpenSpec.ofChange zigBackSpec)

/-- ITS FALSE NEIGHBOUR: 'it returns false'. Refute it at one input. -/
def zigBackWrong : ChangeSpec := { name := "zigBack", fn := fun _ => fun
  | [d1, d2, d3] => { results := [.lit (.bool false)], args := [d1, d2, d3] }
  | _ => none }
def ZigBackWrongFalsely : Prop := zigBackRow.holds Try.pinned (OpenSpec.ofChange zigBackWrong)

/- THE SECOND FORM. 'bulk': how many values and letters a reading holds, each counted each time it is reached (what is shared counts as often as it is met; a slice's spare places count too). A statement '..UptoSaid' is the law's where the arguments, and the package variables that the reading takes, are together of bulk at most 1048576: NARROWER than '..Said'. Prove '..Said' where nothing that the law and all that it calls make is longer than what came in: it says more and counts as full. Else prove '..UptoSaid'. A law counts once. -/
mutual
def uptoBulk {H : Type} : DataW H → Nat
  | .lit (.string bytes) => bytes.length + 1
  | .lit _ => 1
  | .nil => 1
  | .ptr d => uptoBulk d + 1
  | .slice elems spare => uptoBulkAll elems + uptoBulkAll spare + 1
  | .agg parts => uptoBulkAll parts + 1
  | .iface _ d => uptoBulk d + 1
  | .map entries => uptoBulkEntries entries + 1
  | .held _ => 1
def uptoBulkAll {H : Type} : List (DataW H) → Nat
  | [] => 0
  | d :: r => uptoBulk d + uptoBulkAll r
def uptoBulkEntries {H : Type} : List (Lit × DataW H) → Nat
  | [] => 0
  | x :: r => uptoBulkEntry x + uptoBulkEntries r
def uptoBulkEntry {H : Type} : Lit × DataW H → Nat
  | (.string bytes, d) => bytes.length + uptoBulk d + 1
  | (_, d) => uptoBulk d + 1
 end
def uptoSmall : (H : Type) → List (DataW H) → Bool := fun _ ds => decide (uptoBulkAll ds ≤ 1048576)
def OpenSpec.upto (s : _root_.Go.ChangeSpec) : _root_.Go.OpenSpec := { _root_.Go.OpenSpec.ofChange s with cond := some uptoSmall }

/-- 'telltalelaw02.ZigFolds', WHERE WHAT IT READS IS OF BULK AT MOST 1048576: true; the input reads as it did. -/
def zigFoldsUptoRow : OpenClaim := { program := "ytnhabcmemadgcaa", sum := "3605c459baa9175414ee2997b3fb3fe5ea34c6db163f1b5825ec8205deee3bcd", func := "telltale/telltalelaw02.ZigFolds", spec := "zigFolds", apart := false, narrowed := true }
def ZigFoldsUptoSaid : Prop := zigFoldsUptoRow.holds Try.pinned (OpenSpec.upto zigFoldsSpec)

/-- 'telltalelaw02.ZigLays', WHERE WHAT IT READS IS OF BULK AT MOST 1048576: true; the input reads as it did. -/
def zigLaysUptoRow : OpenClaim := { program := "ytnhabcmemadgcaa", sum := "3605c459baa9175414ee2997b3fb3fe5ea34c6db163f1b5825ec8205deee3bcd", func := "telltale/telltalelaw02.ZigLays", spec := "zigLays", apart := false, narrowed := true }
def ZigLaysUptoSaid : Prop := zigLaysUptoRow.holds Try.pinned (OpenSpec.upto zigLaysSpec)

/-- 'telltalelaw02.ZigTakes', WHERE WHAT IT READS IS OF BULK AT MOST 1048576: true; the input reads as it did. -/
def zigTakesUptoRow : OpenClaim := { program := "ytnhabcmemadgcaa", sum := "3605c459baa9175414ee2997b3fb3fe5ea34c6db163f1b5825ec8205deee3bcd", func := "telltale/telltalelaw02.ZigTakes", spec := "zigTakes", apart := false, narrowed := true }
def ZigTakesUptoSaid : Prop := zigTakesUptoRow.holds Try.pinned (OpenSpec.upto zigTakesSpec)

/-- 'telltalelaw02.ZigBack', WHERE WHAT IT READS IS OF BULK AT MOST 1048576: true; the input reads as it did. -/
def zigBackUptoRow : OpenClaim := { program := "ytnhabcmemadgcaa", sum := "3605c459baa9175414ee2997b3fb3fe5ea34c6db163f1b5825ec8205deee3bcd", func := "telltale/telltalelaw02.ZigBack", spec := "zigBack", apart := false, narrowed := true }
def ZigBackUptoSaid : Prop := zigBackUptoRow.holds Try.pinned (OpenSpec.upto zigBackSpec)

end Rows
end Go.Proofs.Ytnhabcmemadgcaa
