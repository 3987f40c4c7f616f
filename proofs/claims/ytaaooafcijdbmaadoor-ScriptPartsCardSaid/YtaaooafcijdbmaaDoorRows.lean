/-
  NARROWER THAN 'FOR EVERY INPUT', by the rows' own cells (each row's printed sentence says how): ScriptWrites: laid · ScriptReads: laid · ScriptBack: laid · ScriptParts: laid.
  DERIVED. THE GIVEN ROWS OF THIS SEAT. 4 by the template 'for every input the law returns true; each argument reads behind the call as it read before'; 0 by the template 'total and deterministic' (their statements: YtaaooafcijdbmaaDoorTotals.lean).
  GIVEN WITH THE SEED: the statements are not yours to turn. If you find one false, say at which input.
  Laid BY PROGRAM, IN A SANDBOX (cutbox-rows.mjs): the forced cells as the released guide's own fill.sh prints them over the translation d244204ad14fb1ba… (all of the seat's roots in one cut). By AI agents, Wed Nov 11 2026. No macro, syntax, notation, axiom, sorry.
-/
import Derived.Test.YtaaooafcijdbmaaDoorChecked
import GoSem.Claim
import GoSem.ClaimJoined
import GoSem.ClaimMapViews
import Derived.JoinedTies
import Derived.KernelRfl
namespace Go.Proofs.YtaaooafcijdbmaaDoor
/- THE CELL 'sum', in the pinned program and in every row, IS THE sha256 OF THE DUMP (.gsa) THAT YtaaooafcijdbmaaDoorProg.lean LOADS. Nothing in Lean hashes anything: it is a label: what it is worth is what the hold of that sum in a sandbox is worth. -/
noncomputable def Tryd.pinned : Pinned := { name := "ytaaooafcijdbmaadoor", sum := "d244204ad14fb1bab4a1e0fe3d03257492cdeac6aa2d05eb6fa1c31afb2e46cc", checked := Tryd.checked }
namespace Rows
def none {H : Type} : Left H := { results := [], args := [] }

/- WHAT THE LISTED PACKAGE-LEVEL VARIABLES READ AS WHEN THE CALL BEGINS. Each datum BY PROGRAM (the guide's laid-datum.mjs) off the statement by which the dump's own 'gosem.cut.vars' lays the variable. In a bare row this is a premise. The card (YtaaooafcijdbmaaDoorCards.lean) ties it to the program's text. -/
def laid_telltale_script_parts {H : Type} : DataW H := .agg [.lit (.int .u8 0), .lit (.int .u8 1), .lit (.int .u8 0), .lit (.int .u8 2), .lit (.int .u8 12), .lit (.int .u8 4), .lit (.int .u8 4), .lit (.int .u8 4)]

/-- 'telltalelaw37.ScriptWrites': WHATEVER THE INPUT: true; the input reads as it did. -/
def scriptWritesSpec : ChangeSpec := { name := "scriptWrites", fn := fun _ => fun
  | [d1, d2] => { results := [.lit (.bool true)], args := [d1, d2] }
  | _ => none }
def scriptWritesRow : OpenClaim := { program := "ytaaooafcijdbmaadoor", sum := "d244204ad14fb1bab4a1e0fe3d03257492cdeac6aa2d05eb6fa1c31afb2e46cc", func := "telltale/telltalelaw37.ScriptWrites", spec := "scriptWrites", inPlace := ["math.Float64frombits"], unfollowed := true, recurses := true, named := ["telltale/script.parts"], apart := false, laid := [("telltale/script.parts", laid_telltale_script_parts)] }
def ScriptWritesSaid : Prop := scriptWritesRow.holds Tryd.pinned (OpenSpec.ofChange scriptWritesSpec)

/-- ITS FALSE NEIGHBOUR: 'it returns false'. Refute it at one input. -/
def scriptWritesWrong : ChangeSpec := { name := "scriptWrites", fn := fun _ => fun
  | [d1, d2] => { results := [.lit (.bool false)], args := [d1, d2] }
  | _ => none }
def ScriptWritesWrongFalsely : Prop := scriptWritesRow.holds Tryd.pinned (OpenSpec.ofChange scriptWritesWrong)

/-- 'telltalelaw37.ScriptReads': WHATEVER THE INPUT: true; the input reads as it did. -/
def scriptReadsSpec : ChangeSpec := { name := "scriptReads", fn := fun _ => fun
  | [d1, d2] => { results := [.lit (.bool true)], args := [d1, d2] }
  | _ => none }
def scriptReadsRow : OpenClaim := { program := "ytaaooafcijdbmaadoor", sum := "d244204ad14fb1bab4a1e0fe3d03257492cdeac6aa2d05eb6fa1c31afb2e46cc", func := "telltale/telltalelaw37.ScriptReads", spec := "scriptReads", inPlace := ["math.Float64frombits"], unfollowed := true, recurses := true, named := ["telltale/script.parts"], apart := false, laid := [("telltale/script.parts", laid_telltale_script_parts)] }
def ScriptReadsSaid : Prop := scriptReadsRow.holds Tryd.pinned (OpenSpec.ofChange scriptReadsSpec)

/-- ITS FALSE NEIGHBOUR: 'it returns false'. Refute it at one input. -/
def scriptReadsWrong : ChangeSpec := { name := "scriptReads", fn := fun _ => fun
  | [d1, d2] => { results := [.lit (.bool false)], args := [d1, d2] }
  | _ => none }
def ScriptReadsWrongFalsely : Prop := scriptReadsRow.holds Tryd.pinned (OpenSpec.ofChange scriptReadsWrong)

/-- 'telltalelaw37.ScriptBack': WHATEVER THE INPUT: true; the input reads as it did. -/
def scriptBackSpec : ChangeSpec := { name := "scriptBack", fn := fun _ => fun
  | [d1, d2, d3] => { results := [.lit (.bool true)], args := [d1, d2, d3] }
  | _ => none }
def scriptBackRow : OpenClaim := { program := "ytaaooafcijdbmaadoor", sum := "d244204ad14fb1bab4a1e0fe3d03257492cdeac6aa2d05eb6fa1c31afb2e46cc", func := "telltale/telltalelaw37.ScriptBack", spec := "scriptBack", inPlace := ["math.Float64frombits"], unfollowed := true, recurses := true, named := ["telltale/script.parts"], apart := false, laid := [("telltale/script.parts", laid_telltale_script_parts)] }
def ScriptBackSaid : Prop := scriptBackRow.holds Tryd.pinned (OpenSpec.ofChange scriptBackSpec)

/-- ITS FALSE NEIGHBOUR: 'it returns false'. Refute it at one input. -/
def scriptBackWrong : ChangeSpec := { name := "scriptBack", fn := fun _ => fun
  | [d1, d2, d3] => { results := [.lit (.bool false)], args := [d1, d2, d3] }
  | _ => none }
def ScriptBackWrongFalsely : Prop := scriptBackRow.holds Tryd.pinned (OpenSpec.ofChange scriptBackWrong)

/-- 'telltalelaw37.ScriptParts': WHATEVER THE INPUT: true; the input reads as it did. -/
def scriptPartsSpec : ChangeSpec := { name := "scriptParts", fn := fun _ => fun
  | [d1, d2, d3] => { results := [.lit (.bool true)], args := [d1, d2, d3] }
  | _ => none }
def scriptPartsRow : OpenClaim := { program := "ytaaooafcijdbmaadoor", sum := "d244204ad14fb1bab4a1e0fe3d03257492cdeac6aa2d05eb6fa1c31afb2e46cc", func := "telltale/telltalelaw37.ScriptParts", spec := "scriptParts", inPlace := ["math.Float64frombits"], unfollowed := true, recurses := true, named := ["telltale/script.parts"], apart := false, laid := [("telltale/script.parts", laid_telltale_script_parts)] }
def ScriptPartsSaid : Prop := scriptPartsRow.holds Tryd.pinned (OpenSpec.ofChange scriptPartsSpec)

/-- ITS FALSE NEIGHBOUR: 'it returns false'. Refute it at one input. -/
def scriptPartsWrong : ChangeSpec := { name := "scriptParts", fn := fun _ => fun
  | [d1, d2, d3] => { results := [.lit (.bool false)], args := [d1, d2, d3] }
  | _ => none }
def ScriptPartsWrongFalsely : Prop := scriptPartsRow.holds Tryd.pinned (OpenSpec.ofChange scriptPartsWrong)

/- THE SECOND FORM. 'bulk': how many values and letters a reading holds, each counted each time it is reached (what is shared counts as often as it is met; a slice's spare places count too). A statement '..UptoSaid' is the law's where the arguments, and the package variables that the reading takes, are together of bulk at most 1048576: NARROWER than '..Said'. Prove '..Said' where nothing that the law and all that it calls make is longer than what came in: it says more and counts as full. Else prove '..UptoSaid'. A law counts once. -/
mutual
def uptoBulk {H : Type} : DataW H → Nat
  | .lit (.string bytes) => bytes.length + 1
  | .lit _ => 1
  | .nil => 1
  | .ptr d => uptoBulk d + 1
  | .slice elems spare => uptoBulkAll elems + uptoBulkAll spare + 1
  | .agg parts => uptoBulkAll parts + 1
  | .iface _ d => uptoBulk d + 1
  | .map entries => uptoBulkEntries entries + 1
  | .held _ => 1
def uptoBulkAll {H : Type} : List (DataW H) → Nat
  | [] => 0
  | d :: r => uptoBulk d + uptoBulkAll r
def uptoBulkEntries {H : Type} : List (Lit × DataW H) → Nat
  | [] => 0
  | x :: r => uptoBulkEntry x + uptoBulkEntries r
def uptoBulkEntry {H : Type} : Lit × DataW H → Nat
  | (.string bytes, d) => bytes.length + uptoBulk d + 1
  | (_, d) => uptoBulk d + 1
 end
def uptoSmall : (H : Type) → List (DataW H) → Bool := fun _ ds => decide (uptoBulkAll ds ≤ 1048576)
def OpenSpec.upto (s : _root_.Go.ChangeSpec) : _root_.Go.OpenSpec := { _root_.Go.OpenSpec.ofChange s with cond := some uptoSmall }

/-- 'telltalelaw37.ScriptWrites', WHERE WHAT IT READS IS OF BULK AT MOST 1048576: true; the input reads as it did. -/
def scriptWritesUptoRow : OpenClaim := { program := "ytaaooafcijdbmaadoor", sum := "d244204ad14fb1bab4a1e0fe3d03257492cdeac6aa2d05eb6fa1c31afb2e46cc", func := "telltale/telltalelaw37.ScriptWrites", spec := "scriptWrites", inPlace := ["math.Float64frombits"], unfollowed := true, recurses := true, named := ["telltale/script.parts"], apart := false, laid := [("telltale/script.parts", laid_telltale_script_parts)], narrowed := true }
def ScriptWritesUptoSaid : Prop := scriptWritesUptoRow.holds Tryd.pinned (OpenSpec.upto scriptWritesSpec)

/-- 'telltalelaw37.ScriptReads', WHERE WHAT IT READS IS OF BULK AT MOST 1048576: true; the input reads as it did. -/
def scriptReadsUptoRow : OpenClaim := { program := "ytaaooafcijdbmaadoor", sum := "d244204ad14fb1bab4a1e0fe3d03257492cdeac6aa2d05eb6fa1c31afb2e46cc", func := "telltale/telltalelaw37.ScriptReads", spec := "scriptReads", inPlace := ["math.Float64frombits"], unfollowed := true, recurses := true, named := ["telltale/script.parts"], apart := false, laid := [("telltale/script.parts", laid_telltale_script_parts)], narrowed := true }
def ScriptReadsUptoSaid : Prop := scriptReadsUptoRow.holds Tryd.pinned (OpenSpec.upto scriptReadsSpec)

/-- 'telltalelaw37.ScriptBack', WHERE WHAT IT READS IS OF BULK AT MOST 1048576: true; the input reads as it did. -/
def scriptBackUptoRow : OpenClaim := { program := "ytaaooafcijdbmaadoor", sum := "d244204ad14fb1bab4a1e0fe3d03257492cdeac6aa2d05eb6fa1c31afb2e46cc", func := "telltale/telltalelaw37.ScriptBack", spec := "scriptBack", inPlace := ["math.Float64frombits"], unfollowed := true, recurses := true, named := ["telltale/script.parts"], apart := false, laid := [("telltale/script.parts", laid_telltale_script_parts)], narrowed := true }
def ScriptBackUptoSaid : Prop := scriptBackUptoRow.holds Tryd.pinned (OpenSpec.upto scriptBackSpec)

/-- 'telltalelaw37.ScriptParts', WHERE WHAT IT READS IS OF BULK AT MOST 1048576: true; the input reads as it did. -/
def scriptPartsUptoRow : OpenClaim := { program := "ytaaooafcijdbmaadoor", sum := "d244204ad14fb1bab4a1e0fe3d03257492cdeac6aa2d05eb6fa1c31afb2e46cc", func := "telltale/telltalelaw37.ScriptParts", spec := "scriptParts", inPlace := ["math.Float64frombits"], unfollowed := true, recurses := true, named := ["telltale/script.parts"], apart := false, laid := [("telltale/script.parts", laid_telltale_script_parts)], narrowed := true }
def ScriptPartsUptoSaid : Prop := scriptPartsUptoRow.holds Tryd.pinned (OpenSpec.upto scriptPartsSpec)

end Rows
end Go.Proofs.YtaaooafcijdbmaaDoor
