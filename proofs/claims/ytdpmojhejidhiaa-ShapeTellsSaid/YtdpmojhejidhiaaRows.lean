/-
  No cell of these rows narrows 'for every input' (looked for: loops, veiled, ifaces, maps, wideKeys, modest, calm, conditions, laid).
  DERIVED. THE GIVEN ROWS OF THIS SEAT. 3 by the template 'for every input the law returns true; each argument reads behind the call as it read before'; 0 by the template 'total and deterministic' (their statements: YtdpmojhejidhiaaTotals.lean).
  GIVEN WITH THE SEED: the statements are not yours to turn. If you find one false, say at which input.
  Laid BY PROGRAM, IN A SANDBOX (cutbox-rows.mjs): the forced cells as the released guide's own fill.sh prints them over the translation e24d0bbacda6b864… (all of the seat's roots in one cut). By AI agents, Wed Nov 11 2026. No macro, syntax, notation, axiom, sorry.
-/
import Derived.Test.YtdpmojhejidhiaaChecked
import GoSem.Claim
import GoSem.ClaimJoined
import GoSem.ClaimMapViews
import Derived.JoinedTies
import Derived.KernelRfl
namespace Go.Proofs.Ytdpmojhejidhiaa
/- THE CELL 'sum', in the pinned program and in every row, IS THE sha256 OF THE DUMP (.gsa) THAT YtdpmojhejidhiaaProg.lean LOADS. Nothing in Lean hashes anything: it is a label: what it is worth is what the hold of that sum in a sandbox is worth. -/
noncomputable def Try.pinned : Pinned := { name := "ytdpmojhejidhiaa", sum := "e24d0bbacda6b864249bca974e0684329aaaf5f3d0974fb21f949d0a90493875", checked := Try.checked }
namespace Rows
def none {H : Type} : Left H := { results := [], args := [] }

/-- 'telltalelaw13.ShapeTells': WHATEVER THE INPUT: true; the input reads as it did. -/
def shapeTellsSpec : ChangeSpec := { name := "shapeTells", fn := fun _ => fun
  | [d1, d2] => { results := [.lit (.bool true)], args := [d1, d2] }
  | _ => none }
def shapeTellsRow : OpenClaim := { program := "ytdpmojhejidhiaa", sum := "e24d0bbacda6b864249bca974e0684329aaaf5f3d0974fb21f949d0a90493875", func := "telltale/telltalelaw13.ShapeTells", spec := "shapeTells", inPlace := ["math.Float64frombits", "internal/abi.NoEscape"], unfollowed := true, recurses := true, apart := false }
def ShapeTellsSaid : Prop := shapeTellsRow.holds Try.pinned (OpenSpec.ofChange shapeTellsSpec)

/-- ITS FALSE NEIGHBOUR: 'it returns false'. Refute it at one input. -/
def shapeTellsWrong : ChangeSpec := { name := "shapeTells", fn := fun _ => fun
  | [d1, d2] => { results := [.lit (.bool false)], args := [d1, d2] }
  | _ => none }
def ShapeTellsWrongFalsely : Prop := shapeTellsRow.holds Try.pinned (OpenSpec.ofChange shapeTellsWrong)

/-- 'telltalelaw13.ShapeTrees': WHATEVER THE INPUT: true; the input reads as it did. -/
def shapeTreesSpec : ChangeSpec := { name := "shapeTrees", fn := fun _ => fun
  | [d] => { results := [.lit (.bool true)], args := [d] }
  | _ => none }
def shapeTreesRow : OpenClaim := { program := "ytdpmojhejidhiaa", sum := "e24d0bbacda6b864249bca974e0684329aaaf5f3d0974fb21f949d0a90493875", func := "telltale/telltalelaw13.ShapeTrees", spec := "shapeTrees", inPlace := ["math.Float64frombits", "internal/abi.NoEscape"], unfollowed := true, recurses := true, apart := false }
def ShapeTreesSaid : Prop := shapeTreesRow.holds Try.pinned (OpenSpec.ofChange shapeTreesSpec)

/-- ITS FALSE NEIGHBOUR: 'it returns false'. Refute it at one input. -/
def shapeTreesWrong : ChangeSpec := { name := "shapeTrees", fn := fun _ => fun
  | [d] => { results := [.lit (.bool false)], args := [d] }
  | _ => none }
def ShapeTreesWrongFalsely : Prop := shapeTreesRow.holds Try.pinned (OpenSpec.ofChange shapeTreesWrong)

/-- 'telltalelaw13.ShapeApart': WHATEVER THE INPUT: true; the input reads as it did. -/
def shapeApartSpec : ChangeSpec := { name := "shapeApart", fn := fun _ => fun
  | [d1, d2] => { results := [.lit (.bool true)], args := [d1, d2] }
  | _ => none }
def shapeApartRow : OpenClaim := { program := "ytdpmojhejidhiaa", sum := "e24d0bbacda6b864249bca974e0684329aaaf5f3d0974fb21f949d0a90493875", func := "telltale/telltalelaw13.ShapeApart", spec := "shapeApart", inPlace := ["math.Float64frombits", "internal/abi.NoEscape"], unfollowed := true, recurses := true, apart := false }
def ShapeApartSaid : Prop := shapeApartRow.holds Try.pinned (OpenSpec.ofChange shapeApartSpec)

/-- ITS FALSE NEIGHBOUR: 'it returns false'. Refute it at one input. -/
def shapeApartWrong : ChangeSpec := { name := "shapeApart", fn := fun _ => fun
  | [d1, d2] => { results := [.lit (.bool false)], args := [d1, d2] }
  | _ => none }
def ShapeApartWrongFalsely : Prop := shapeApartRow.holds Try.pinned (OpenSpec.ofChange shapeApartWrong)

/- THE SECOND FORM. 'bulk': how many values and letters a reading holds, each counted each time it is reached (what is shared counts as often as it is met; a slice's spare places count too). A statement '..UptoSaid' is the law's where the arguments, and the package variables that the reading takes, are together of bulk at most 1048576: NARROWER than '..Said'. Prove '..Said' where nothing that the law and all that it calls make is longer than what came in: it says more and counts as full. Else prove '..UptoSaid'. A law counts once. -/
mutual
def uptoBulk {H : Type} : DataW H → Nat
  | .lit (.string bytes) => bytes.length + 1
  | .lit _ => 1
  | .nil => 1
  | .ptr d => uptoBulk d + 1
  | .slice elems spare => uptoBulkAll elems + uptoBulkAll spare + 1
  | .agg parts => uptoBulkAll parts + 1
  | .iface _ d => uptoBulk d + 1
  | .map entries => uptoBulkEntries entries + 1
  | .held _ => 1
def uptoBulkAll {H : Type} : List (DataW H) → Nat
  | [] => 0
  | d :: r => uptoBulk d + uptoBulkAll r
def uptoBulkEntries {H : Type} : List (Lit × DataW H) → Nat
  | [] => 0
  | x :: r => uptoBulkEntry x + uptoBulkEntries r
def uptoBulkEntry {H : Type} : Lit × DataW H → Nat
  | (.string bytes, d) => bytes.length + uptoBulk d + 1
  | (_, d) => uptoBulk d + 1
 end
def uptoSmall : (H : Type) → List (DataW H) → Bool := fun _ ds => decide (uptoBulkAll ds ≤ 1048576)
def OpenSpec.upto (s : _root_.Go.ChangeSpec) : _root_.Go.OpenSpec := { _root_.Go.OpenSpec.ofChange s with cond := some uptoSmall }

/-- 'telltalelaw13.ShapeTells', WHERE WHAT IT READS IS OF BULK AT MOST 1048576: true; the input reads as it did. -/
def shapeTellsUptoRow : OpenClaim := { program := "ytdpmojhejidhiaa", sum := "e24d0bbacda6b864249bca974e0684329aaaf5f3d0974fb21f949d0a90493875", func := "telltale/telltalelaw13.ShapeTells", spec := "shapeTells", inPlace := ["math.Float64frombits", "internal/abi.NoEscape"], unfollowed := true, recurses := true, apart := false, narrowed := true }
def ShapeTellsUptoSaid : Prop := shapeTellsUptoRow.holds Try.pinned (OpenSpec.upto shapeTellsSpec)

/-- 'telltalelaw13.ShapeTrees', WHERE WHAT IT READS IS OF BULK AT MOST 1048576: true; the input reads as it did. -/
def shapeTreesUptoRow : OpenClaim := { program := "ytdpmojhejidhiaa", sum := "e24d0bbacda6b864249bca974e0684329aaaf5f3d0974fb21f949d0a90493875", func := "telltale/telltalelaw13.ShapeTrees", spec := "shapeTrees", inPlace := ["math.Float64frombits", "internal/abi.NoEscape"], unfollowed := true, recurses := true, apart := false, narrowed := true }
def ShapeTreesUptoSaid : Prop := shapeTreesUptoRow.holds Try.pinned (OpenSpec.upto shapeTreesSpec)

/-- 'telltalelaw13.ShapeApart', WHERE WHAT IT READS IS OF BULK AT MOST 1048576: true; the input reads as it did. -/
def shapeApartUptoRow : OpenClaim := { program := "ytdpmojhejidhiaa", sum := "e24d0bbacda6b864249bca974e0684329aaaf5f3d0974fb21f949d0a90493875", func := "telltale/telltalelaw13.ShapeApart", spec := "shapeApart", inPlace := ["math.Float64frombits", "internal/abi.NoEscape"], unfollowed := true, recurses := true, apart := false, narrowed := true }
def ShapeApartUptoSaid : Prop := shapeApartUptoRow.holds Try.pinned (OpenSpec.upto shapeApartSpec)

end Rows
end Go.Proofs.Ytdpmojhejidhiaa
