/-
  No cell of these rows narrows 'for every input' (looked for: loops, veiled, ifaces, maps, wideKeys, modest, calm, conditions, laid).
  DERIVED. THE GIVEN ROWS OF THIS SEAT. 6 by the template 'for every input the law returns true; each argument reads behind the call as it read before'; 0 by the template 'total and deterministic' (their statements: YtliijigdbpmpaaaTotals.lean).
  GIVEN WITH THE SEED: the statements are not yours to turn. If you find one false, say at which input.
  Laid BY PROGRAM, IN A SANDBOX (cutbox-rows.mjs): the forced cells as the released guide's own fill.sh prints them over the translation 9698c1b3d0e9012b… (all of the seat's roots in one cut). By AI agents, Wed Nov 11 2026. No macro, syntax, notation, axiom, sorry.
-/
import Derived.Test.YtliijigdbpmpaaaChecked
import GoSem.Claim
import GoSem.ClaimJoined
import GoSem.ClaimMapViews
import Derived.JoinedTies
import Derived.KernelRfl
namespace Go.Proofs.Ytliijigdbpmpaaa
/- THE CELL 'sum', in the pinned program and in every row, IS THE sha256 OF THE DUMP (.gsa) THAT YtliijigdbpmpaaaProg.lean LOADS. Nothing in Lean hashes anything: it is a label: what it is worth is what the hold of that sum in a sandbox is worth. -/
noncomputable def Try.pinned : Pinned := { name := "ytliijigdbpmpaaa", sum := "9698c1b3d0e9012b205ef92171ddb3aec5c83fdf33aafbd468eb5246f8a3265c", checked := Try.checked }
namespace Rows
def none {H : Type} : Left H := { results := [], args := [] }

/-- 'garmentlaw23.NotchKeeps': WHATEVER THE INPUT: true; the input reads as it did. -/
def notchKeepsSpec : ChangeSpec := { name := "notchKeeps", fn := fun _ => fun
  | [d1, d2] => { results := [.lit (.bool true)], args := [d1, d2] }
  | _ => none }
def notchKeepsRow : OpenClaim := { program := "ytliijigdbpmpaaa", sum := "9698c1b3d0e9012b205ef92171ddb3aec5c83fdf33aafbd468eb5246f8a3265c", func := "garment/garmentlaw23.NotchKeeps", spec := "notchKeeps", unfollowed := true, recurses := true, named := ["math/bits.divideError", "math/bits.overflowError"], apart := false }
def NotchKeepsSaid : Prop := notchKeepsRow.holds Try.pinned (OpenSpec.ofChange notchKeepsSpec)

/-- ITS FALSE NEIGHBOUR: 'it returns false'. Refute it at one input. -/
def notchKeepsWrong : ChangeSpec := { name := "notchKeeps", fn := fun _ => fun
  | [d1, d2] => { results := [.lit (.bool false)], args := [d1, d2] }
  | _ => none }
def NotchKeepsWrongFalsely : Prop := notchKeepsRow.holds Try.pinned (OpenSpec.ofChange notchKeepsWrong)

/-- 'garmentlaw23.NotchMoves': WHATEVER THE INPUT: true; the input reads as it did. -/
def notchMovesSpec : ChangeSpec := { name := "notchMoves", fn := fun _ => fun
  | [d1, d2, d3] => { results := [.lit (.bool true)], args := [d1, d2, d3] }
  | _ => none }
def notchMovesRow : OpenClaim := { program := "ytliijigdbpmpaaa", sum := "9698c1b3d0e9012b205ef92171ddb3aec5c83fdf33aafbd468eb5246f8a3265c", func := "garment/garmentlaw23.NotchMoves", spec := "notchMoves", unfollowed := true, recurses := true, named := ["math/bits.divideError", "math/bits.overflowError"], apart := false }
def NotchMovesSaid : Prop := notchMovesRow.holds Try.pinned (OpenSpec.ofChange notchMovesSpec)

/-- ITS FALSE NEIGHBOUR: 'it returns false'. Refute it at one input. -/
def notchMovesWrong : ChangeSpec := { name := "notchMoves", fn := fun _ => fun
  | [d1, d2, d3] => { results := [.lit (.bool false)], args := [d1, d2, d3] }
  | _ => none }
def NotchMovesWrongFalsely : Prop := notchMovesRow.holds Try.pinned (OpenSpec.ofChange notchMovesWrong)

/-- 'garmentlaw23.NotchSelf': WHATEVER THE INPUT: true; the input reads as it did. -/
def notchSelfSpec : ChangeSpec := { name := "notchSelf", fn := fun _ => fun
  | [d1, d2, d3] => { results := [.lit (.bool true)], args := [d1, d2, d3] }
  | _ => none }
def notchSelfRow : OpenClaim := { program := "ytliijigdbpmpaaa", sum := "9698c1b3d0e9012b205ef92171ddb3aec5c83fdf33aafbd468eb5246f8a3265c", func := "garment/garmentlaw23.NotchSelf", spec := "notchSelf", unfollowed := true, recurses := true, named := ["math/bits.divideError", "math/bits.overflowError"], apart := false }
def NotchSelfSaid : Prop := notchSelfRow.holds Try.pinned (OpenSpec.ofChange notchSelfSpec)

/-- ITS FALSE NEIGHBOUR: 'it returns false'. Refute it at one input. -/
def notchSelfWrong : ChangeSpec := { name := "notchSelf", fn := fun _ => fun
  | [d1, d2, d3] => { results := [.lit (.bool false)], args := [d1, d2, d3] }
  | _ => none }
def NotchSelfWrongFalsely : Prop := notchSelfRow.holds Try.pinned (OpenSpec.ofChange notchSelfWrong)

/-- 'garmentlaw23.NotchIssues': WHATEVER THE INPUT: true; the input reads as it did. -/
def notchIssuesSpec : ChangeSpec := { name := "notchIssues", fn := fun _ => fun
  | [d1, d2] => { results := [.lit (.bool true)], args := [d1, d2] }
  | _ => none }
def notchIssuesRow : OpenClaim := { program := "ytliijigdbpmpaaa", sum := "9698c1b3d0e9012b205ef92171ddb3aec5c83fdf33aafbd468eb5246f8a3265c", func := "garment/garmentlaw23.NotchIssues", spec := "notchIssues", unfollowed := true, recurses := true, named := ["math/bits.divideError", "math/bits.overflowError"], apart := false }
def NotchIssuesSaid : Prop := notchIssuesRow.holds Try.pinned (OpenSpec.ofChange notchIssuesSpec)

/-- ITS FALSE NEIGHBOUR: 'it returns false'. Refute it at one input. -/
def notchIssuesWrong : ChangeSpec := { name := "notchIssues", fn := fun _ => fun
  | [d1, d2] => { results := [.lit (.bool false)], args := [d1, d2] }
  | _ => none }
def NotchIssuesWrongFalsely : Prop := notchIssuesRow.holds Try.pinned (OpenSpec.ofChange notchIssuesWrong)

/-- 'garmentlaw23.NotchSwaps': WHATEVER THE INPUT: true; the input reads as it did. -/
def notchSwapsSpec : ChangeSpec := { name := "notchSwaps", fn := fun _ => fun
  | [d1, d2] => { results := [.lit (.bool true)], args := [d1, d2] }
  | _ => none }
def notchSwapsRow : OpenClaim := { program := "ytliijigdbpmpaaa", sum := "9698c1b3d0e9012b205ef92171ddb3aec5c83fdf33aafbd468eb5246f8a3265c", func := "garment/garmentlaw23.NotchSwaps", spec := "notchSwaps", unfollowed := true, recurses := true, named := ["math/bits.divideError", "math/bits.overflowError"], apart := false }
def NotchSwapsSaid : Prop := notchSwapsRow.holds Try.pinned (OpenSpec.ofChange notchSwapsSpec)

/-- ITS FALSE NEIGHBOUR: 'it returns false'. Refute it at one input. -/
def notchSwapsWrong : ChangeSpec := { name := "notchSwaps", fn := fun _ => fun
  | [d1, d2] => { results := [.lit (.bool false)], args := [d1, d2] }
  | _ => none }
def NotchSwapsWrongFalsely : Prop := notchSwapsRow.holds Try.pinned (OpenSpec.ofChange notchSwapsWrong)

/-- 'garmentlaw23.NotchTurns': WHATEVER THE INPUT: true; the input reads as it did. -/
def notchTurnsSpec : ChangeSpec := { name := "notchTurns", fn := fun _ => fun
  | [d1, d2, d3] => { results := [.lit (.bool true)], args := [d1, d2, d3] }
  | _ => none }
def notchTurnsRow : OpenClaim := { program := "ytliijigdbpmpaaa", sum := "9698c1b3d0e9012b205ef92171ddb3aec5c83fdf33aafbd468eb5246f8a3265c", func := "garment/garmentlaw23.NotchTurns", spec := "notchTurns", unfollowed := true, recurses := true, named := ["math/bits.divideError", "math/bits.overflowError"], apart := false }
def NotchTurnsSaid : Prop := notchTurnsRow.holds Try.pinned (OpenSpec.ofChange notchTurnsSpec)

/-- ITS FALSE NEIGHBOUR: 'it returns false'. Refute it at one input. -/
def notchTurnsWrong : ChangeSpec := { name := "notchTurns", fn := fun _ => fun
  | [d1, d2, d3] => { results := [.lit (.bool false)], args := [d1, d2, d3] }
  | _ => none }
def NotchTurnsWrongFalsely : Prop := notchTurnsRow.holds Try.pinned (OpenSpec.ofChange notchTurnsWrong)

/- THE SECOND FORM. 'bulk': how many values and letters a reading holds, each counted each time it is reached (what is shared counts as often as it is met; a slice's spare places count too). A statement '..UptoSaid' is the law's where the arguments, and the package variables that the reading takes, are together of bulk at most 1048576: NARROWER than '..Said'. Prove '..Said' where nothing that the law and all that it calls make is longer than what came in: it says more and counts as full. Else prove '..UptoSaid'. A law counts once. -/
mutual
def uptoBulk {H : Type} : DataW H → Nat
  | .lit (.string bytes) => bytes.length + 1
  | .lit _ => 1
  | .nil => 1
  | .ptr d => uptoBulk d + 1
  | .slice elems spare => uptoBulkAll elems + uptoBulkAll spare + 1
  | .agg parts => uptoBulkAll parts + 1
  | .iface _ d => uptoBulk d + 1
  | .map entries => uptoBulkEntries entries + 1
  | .held _ => 1
def uptoBulkAll {H : Type} : List (DataW H) → Nat
  | [] => 0
  | d :: r => uptoBulk d + uptoBulkAll r
def uptoBulkEntries {H : Type} : List (Lit × DataW H) → Nat
  | [] => 0
  | x :: r => uptoBulkEntry x + uptoBulkEntries r
def uptoBulkEntry {H : Type} : Lit × DataW H → Nat
  | (.string bytes, d) => bytes.length + uptoBulk d + 1
  | (_, d) => uptoBulk d + 1
 end
def uptoSmall : (H : Type) → List (DataW H) → Bool := fun _ ds => decide (uptoBulkAll ds ≤ 1048576)
def OpenSpec.upto (s : _root_.Go.ChangeSpec) : _root_.Go.OpenSpec := { _root_.Go.OpenSpec.ofChange s with cond := some uptoSmall }

/-- 'garmentlaw23.NotchKeeps', WHERE WHAT IT READS IS OF BULK AT MOST 1048576: true; the input reads as it did. -/
def notchKeepsUptoRow : OpenClaim := { program := "ytliijigdbpmpaaa", sum := "9698c1b3d0e9012b205ef92171ddb3aec5c83fdf33aafbd468eb5246f8a3265c", func := "garment/garmentlaw23.NotchKeeps", spec := "notchKeeps", unfollowed := true, recurses := true, named := ["math/bits.divideError", "math/bits.overflowError"], apart := false, narrowed := true }
def NotchKeepsUptoSaid : Prop := notchKeepsUptoRow.holds Try.pinned (OpenSpec.upto notchKeepsSpec)

/-- 'garmentlaw23.NotchMoves', WHERE WHAT IT READS IS OF BULK AT MOST 1048576: true; the input reads as it did. -/
def notchMovesUptoRow : OpenClaim := { program := "ytliijigdbpmpaaa", sum := "9698c1b3d0e9012b205ef92171ddb3aec5c83fdf33aafbd468eb5246f8a3265c", func := "garment/garmentlaw23.NotchMoves", spec := "notchMoves", unfollowed := true, recurses := true, named := ["math/bits.divideError", "math/bits.overflowError"], apart := false, narrowed := true }
def NotchMovesUptoSaid : Prop := notchMovesUptoRow.holds Try.pinned (OpenSpec.upto notchMovesSpec)

/-- 'garmentlaw23.NotchSelf', WHERE WHAT IT READS IS OF BULK AT MOST 1048576: true; the input reads as it did. -/
def notchSelfUptoRow : OpenClaim := { program := "ytliijigdbpmpaaa", sum := "9698c1b3d0e9012b205ef92171ddb3aec5c83fdf33aafbd468eb5246f8a3265c", func := "garment/garmentlaw23.NotchSelf", spec := "notchSelf", unfollowed := true, recurses := true, named := ["math/bits.divideError", "math/bits.overflowError"], apart := false, narrowed := true }
def NotchSelfUptoSaid : Prop := notchSelfUptoRow.holds Try.pinned (OpenSpec.upto notchSelfSpec)

/-- 'garmentlaw23.NotchIssues', WHERE WHAT IT READS IS OF BULK AT MOST 1048576: true; the input reads as it did. -/
def notchIssuesUptoRow : OpenClaim := { program := "ytliijigdbpmpaaa", sum := "9698c1b3d0e9012b205ef92171ddb3aec5c83fdf33aafbd468eb5246f8a3265c", func := "garment/garmentlaw23.NotchIssues", spec := "notchIssues", unfollowed := true, recurses := true, named := ["math/bits.divideError", "math/bits.overflowError"], apart := false, narrowed := true }
def NotchIssuesUptoSaid : Prop := notchIssuesUptoRow.holds Try.pinned (OpenSpec.upto notchIssuesSpec)

/-- 'garmentlaw23.NotchSwaps', WHERE WHAT IT READS IS OF BULK AT MOST 1048576: true; the input reads as it did. -/
def notchSwapsUptoRow : OpenClaim := { program := "ytliijigdbpmpaaa", sum := "9698c1b3d0e9012b205ef92171ddb3aec5c83fdf33aafbd468eb5246f8a3265c", func := "garment/garmentlaw23.NotchSwaps", spec := "notchSwaps", unfollowed := true, recurses := true, named := ["math/bits.divideError", "math/bits.overflowError"], apart := false, narrowed := true }
def NotchSwapsUptoSaid : Prop := notchSwapsUptoRow.holds Try.pinned (OpenSpec.upto notchSwapsSpec)

/-- 'garmentlaw23.NotchTurns', WHERE WHAT IT READS IS OF BULK AT MOST 1048576: true; the input reads as it did. -/
def notchTurnsUptoRow : OpenClaim := { program := "ytliijigdbpmpaaa", sum := "9698c1b3d0e9012b205ef92171ddb3aec5c83fdf33aafbd468eb5246f8a3265c", func := "garment/garmentlaw23.NotchTurns", spec := "notchTurns", unfollowed := true, recurses := true, named := ["math/bits.divideError", "math/bits.overflowError"], apart := false, narrowed := true }
def NotchTurnsUptoSaid : Prop := notchTurnsUptoRow.holds Try.pinned (OpenSpec.upto notchTurnsSpec)

end Rows
end Go.Proofs.Ytliijigdbpmpaaa
