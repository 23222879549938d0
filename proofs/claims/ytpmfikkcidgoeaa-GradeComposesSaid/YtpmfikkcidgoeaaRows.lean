/-
  No cell of these rows narrows 'for every input' (looked for: loops, veiled, ifaces, maps, wideKeys, modest, calm, conditions, laid).
  DERIVED. THE GIVEN ROWS OF THIS SEAT. 7 by the template 'for every input the law returns true; each argument reads behind the call as it read before'; 0 by the template 'total and deterministic' (their statements: YtpmfikkcidgoeaaTotals.lean).
  GIVEN WITH THE SEED: the statements are not yours to turn. If you find one false, say at which input.
  Laid BY PROGRAM, IN A SANDBOX (cutbox-rows.mjs): the forced cells as the released guide's own fill.sh prints them over the translation 08b81cbf45b78c27… (all of the seat's roots in one cut). By AI agents, Wed Nov 11 2026. No macro, syntax, notation, axiom, sorry.
-/
import Derived.Test.YtpmfikkcidgoeaaChecked
import GoSem.Claim
import GoSem.ClaimJoined
import GoSem.ClaimMapViews
import Derived.JoinedTies
import Derived.KernelRfl
namespace Go.Proofs.Ytpmfikkcidgoeaa
/- THE CELL 'sum', in the pinned program and in every row, IS THE sha256 OF THE DUMP (.gsa) THAT YtpmfikkcidgoeaaProg.lean LOADS. Nothing in Lean hashes anything: it is a label: what it is worth is what the hold of that sum in a sandbox is worth. -/
noncomputable def Try.pinned : Pinned := { name := "ytpmfikkcidgoeaa", sum := "08b81cbf45b78c27d31015068f35946d8c0655f41c703ac6571f1632defce853", checked := Try.checked }
namespace Rows
def none {H : Type} : Left H := { results := [], args := [] }

/-- 'garmentlaw21.GradeTurned': WHATEVER THE INPUT: true; the input reads as it did. -/
def gradeTurnedSpec : ChangeSpec := { name := "gradeTurned", fn := fun _ => fun
  | [d1, d2] => { results := [.lit (.bool true)], args := [d1, d2] }
  | _ => none }
def gradeTurnedRow : OpenClaim := { program := "ytpmfikkcidgoeaa", sum := "08b81cbf45b78c27d31015068f35946d8c0655f41c703ac6571f1632defce853", func := "garment/garmentlaw21.GradeTurned", spec := "gradeTurned", unfollowed := true, recurses := true, apart := false }
def GradeTurnedSaid : Prop := gradeTurnedRow.holds Try.pinned (OpenSpec.ofChange gradeTurnedSpec)

/-- ITS FALSE NEIGHBOUR: 'it returns false'. Refute it at one input. -/
def gradeTurnedWrong : ChangeSpec := { name := "gradeTurned", fn := fun _ => fun
  | [d1, d2] => { results := [.lit (.bool false)], args := [d1, d2] }
  | _ => none }
def GradeTurnedWrongFalsely : Prop := gradeTurnedRow.holds Try.pinned (OpenSpec.ofChange gradeTurnedWrong)

/-- 'garmentlaw21.GradeTurns': WHATEVER THE INPUT: true; the input reads as it did. -/
def gradeTurnsSpec : ChangeSpec := { name := "gradeTurns", fn := fun _ => fun
  | [d1, d2, d3] => { results := [.lit (.bool true)], args := [d1, d2, d3] }
  | _ => none }
def gradeTurnsRow : OpenClaim := { program := "ytpmfikkcidgoeaa", sum := "08b81cbf45b78c27d31015068f35946d8c0655f41c703ac6571f1632defce853", func := "garment/garmentlaw21.GradeTurns", spec := "gradeTurns", unfollowed := true, recurses := true, apart := false }
def GradeTurnsSaid : Prop := gradeTurnsRow.holds Try.pinned (OpenSpec.ofChange gradeTurnsSpec)

/-- ITS FALSE NEIGHBOUR: 'it returns false'. Refute it at one input. -/
def gradeTurnsWrong : ChangeSpec := { name := "gradeTurns", fn := fun _ => fun
  | [d1, d2, d3] => { results := [.lit (.bool false)], args := [d1, d2, d3] }
  | _ => none }
def GradeTurnsWrongFalsely : Prop := gradeTurnsRow.holds Try.pinned (OpenSpec.ofChange gradeTurnsWrong)

/-- 'garmentlaw21.GradeCorners': WHATEVER THE INPUT: true; the input reads as it did. -/
def gradeCornersSpec : ChangeSpec := { name := "gradeCorners", fn := fun _ => fun
  | [d1, d2] => { results := [.lit (.bool true)], args := [d1, d2] }
  | _ => none }
def gradeCornersRow : OpenClaim := { program := "ytpmfikkcidgoeaa", sum := "08b81cbf45b78c27d31015068f35946d8c0655f41c703ac6571f1632defce853", func := "garment/garmentlaw21.GradeCorners", spec := "gradeCorners", unfollowed := true, recurses := true, apart := false }
def GradeCornersSaid : Prop := gradeCornersRow.holds Try.pinned (OpenSpec.ofChange gradeCornersSpec)

/-- ITS FALSE NEIGHBOUR: 'it returns false'. Refute it at one input. -/
def gradeCornersWrong : ChangeSpec := { name := "gradeCorners", fn := fun _ => fun
  | [d1, d2] => { results := [.lit (.bool false)], args := [d1, d2] }
  | _ => none }
def GradeCornersWrongFalsely : Prop := gradeCornersRow.holds Try.pinned (OpenSpec.ofChange gradeCornersWrong)

/-- 'garmentlaw21.GradeBack': WHATEVER THE INPUT: true; the input reads as it did. -/
def gradeBackSpec : ChangeSpec := { name := "gradeBack", fn := fun _ => fun
  | [d1, d2] => { results := [.lit (.bool true)], args := [d1, d2] }
  | _ => none }
def gradeBackRow : OpenClaim := { program := "ytpmfikkcidgoeaa", sum := "08b81cbf45b78c27d31015068f35946d8c0655f41c703ac6571f1632defce853", func := "garment/garmentlaw21.GradeBack", spec := "gradeBack", unfollowed := true, recurses := true, apart := false }
def GradeBackSaid : Prop := gradeBackRow.holds Try.pinned (OpenSpec.ofChange gradeBackSpec)

/-- ITS FALSE NEIGHBOUR: 'it returns false'. Refute it at one input. -/
def gradeBackWrong : ChangeSpec := { name := "gradeBack", fn := fun _ => fun
  | [d1, d2] => { results := [.lit (.bool false)], args := [d1, d2] }
  | _ => none }
def GradeBackWrongFalsely : Prop := gradeBackRow.holds Try.pinned (OpenSpec.ofChange gradeBackWrong)

/-- 'garmentlaw21.GradeSameAreas': WHATEVER THE INPUT: true; the input reads as it did. -/
def gradeSameAreasSpec : ChangeSpec := { name := "gradeSameAreas", fn := fun _ => fun
  | [d1, d2, d3] => { results := [.lit (.bool true)], args := [d1, d2, d3] }
  | _ => none }
def gradeSameAreasRow : OpenClaim := { program := "ytpmfikkcidgoeaa", sum := "08b81cbf45b78c27d31015068f35946d8c0655f41c703ac6571f1632defce853", func := "garment/garmentlaw21.GradeSameAreas", spec := "gradeSameAreas", unfollowed := true, recurses := true, apart := false }
def GradeSameAreasSaid : Prop := gradeSameAreasRow.holds Try.pinned (OpenSpec.ofChange gradeSameAreasSpec)

/-- ITS FALSE NEIGHBOUR: 'it returns false'. Refute it at one input. -/
def gradeSameAreasWrong : ChangeSpec := { name := "gradeSameAreas", fn := fun _ => fun
  | [d1, d2, d3] => { results := [.lit (.bool false)], args := [d1, d2, d3] }
  | _ => none }
def GradeSameAreasWrongFalsely : Prop := gradeSameAreasRow.holds Try.pinned (OpenSpec.ofChange gradeSameAreasWrong)

/-- 'garmentlaw21.GradeMoves': WHATEVER THE INPUT: true; the input reads as it did. -/
def gradeMovesSpec : ChangeSpec := { name := "gradeMoves", fn := fun _ => fun
  | [d1, d2, d3] => { results := [.lit (.bool true)], args := [d1, d2, d3] }
  | _ => none }
def gradeMovesRow : OpenClaim := { program := "ytpmfikkcidgoeaa", sum := "08b81cbf45b78c27d31015068f35946d8c0655f41c703ac6571f1632defce853", func := "garment/garmentlaw21.GradeMoves", spec := "gradeMoves", unfollowed := true, recurses := true, apart := false }
def GradeMovesSaid : Prop := gradeMovesRow.holds Try.pinned (OpenSpec.ofChange gradeMovesSpec)

/-- ITS FALSE NEIGHBOUR: 'it returns false'. Refute it at one input. -/
def gradeMovesWrong : ChangeSpec := { name := "gradeMoves", fn := fun _ => fun
  | [d1, d2, d3] => { results := [.lit (.bool false)], args := [d1, d2, d3] }
  | _ => none }
def GradeMovesWrongFalsely : Prop := gradeMovesRow.holds Try.pinned (OpenSpec.ofChange gradeMovesWrong)

/-- 'garmentlaw21.GradeComposes': WHATEVER THE INPUT: true; the input reads as it did. -/
def gradeComposesSpec : ChangeSpec := { name := "gradeComposes", fn := fun _ => fun
  | [d1, d2, d3] => { results := [.lit (.bool true)], args := [d1, d2, d3] }
  | _ => none }
def gradeComposesRow : OpenClaim := { program := "ytpmfikkcidgoeaa", sum := "08b81cbf45b78c27d31015068f35946d8c0655f41c703ac6571f1632defce853", func := "garment/garmentlaw21.GradeComposes", spec := "gradeComposes", unfollowed := true, recurses := true, apart := false }
def GradeComposesSaid : Prop := gradeComposesRow.holds Try.pinned (OpenSpec.ofChange gradeComposesSpec)

/-- ITS FALSE NEIGHBOUR: 'it returns false'. Refute it at one input. -/
def gradeComposesWrong : ChangeSpec := { name := "gradeComposes", fn := fun _ => fun
  | [d1, d2, d3] => { results := [.lit (.bool false)], args := [d1, d2, d3] }
  | _ => none }
def GradeComposesWrongFalsely : Prop := gradeComposesRow.holds Try.pinned (OpenSpec.ofChange gradeComposesWrong)

/- THE SECOND FORM. 'bulk': how many values and letters a reading holds, each counted each time it is reached (what is shared counts as often as it is met; a slice's spare places count too). A statement '..UptoSaid' is the law's where the arguments, and the package variables that the reading takes, are together of bulk at most 1048576: NARROWER than '..Said'. Prove '..Said' where nothing that the law and all that it calls make is longer than what came in: it says more and counts as full. Else prove '..UptoSaid'. A law counts once. -/
mutual
def uptoBulk {H : Type} : DataW H → Nat
  | .lit (.string bytes) => bytes.length + 1
  | .lit _ => 1
  | .nil => 1
  | .ptr d => uptoBulk d + 1
  | .slice elems spare => uptoBulkAll elems + uptoBulkAll spare + 1
  | .agg parts => uptoBulkAll parts + 1
  | .iface _ d => uptoBulk d + 1
  | .map entries => uptoBulkEntries entries + 1
  | .held _ => 1
def uptoBulkAll {H : Type} : List (DataW H) → Nat
  | [] => 0
  | d :: r => uptoBulk d + uptoBulkAll r
def uptoBulkEntries {H : Type} : List (Lit × DataW H) → Nat
  | [] => 0
  | x :: r => uptoBulkEntry x + uptoBulkEntries r
def uptoBulkEntry {H : Type} : Lit × DataW H → Nat
  | (.string bytes, d) => bytes.length + uptoBulk d + 1
  | (_, d) => uptoBulk d + 1
 end
def uptoSmall : (H : Type) → List (DataW H) → Bool := fun _ ds => decide (uptoBulkAll ds ≤ 1048576)
def OpenSpec.upto (s : _root_.Go.ChangeSpec) : _root_.Go.OpenSpec := { _root_.Go.OpenSpec.ofChange s with cond := some uptoSmall }

/-- 'garmentlaw21.GradeTurned', WHERE WHAT IT READS IS OF BULK AT MOST 1048576: true; the input reads as it did. -/
def gradeTurnedUptoRow : OpenClaim := { program := "ytpmfikkcidgoeaa", sum := "08b81cbf45b78c27d31015068f35946d8c0655f41c703ac6571f1632defce853", func := "garment/garmentlaw21.GradeTurned", spec := "gradeTurned", unfollowed := true, recurses := true, apart := false, narrowed := true }
def GradeTurnedUptoSaid : Prop := gradeTurnedUptoRow.holds Try.pinned (OpenSpec.upto gradeTurnedSpec)

/-- 'garmentlaw21.GradeTurns', WHERE WHAT IT READS IS OF BULK AT MOST 1048576: true; the input reads as it did. -/
def gradeTurnsUptoRow : OpenClaim := { program := "ytpmfikkcidgoeaa", sum := "08b81cbf45b78c27d31015068f35946d8c0655f41c703ac6571f1632defce853", func := "garment/garmentlaw21.GradeTurns", spec := "gradeTurns", unfollowed := true, recurses := true, apart := false, narrowed := true }
def GradeTurnsUptoSaid : Prop := gradeTurnsUptoRow.holds Try.pinned (OpenSpec.upto gradeTurnsSpec)

/-- 'garmentlaw21.GradeCorners', WHERE WHAT IT READS IS OF BULK AT MOST 1048576: true; the input reads as it did. -/
def gradeCornersUptoRow : OpenClaim := { program := "ytpmfikkcidgoeaa", sum := "08b81cbf45b78c27d31015068f35946d8c0655f41c703ac6571f1632defce853", func := "garment/garmentlaw21.GradeCorners", spec := "gradeCorners", unfollowed := true, recurses := true, apart := false, narrowed := true }
def GradeCornersUptoSaid : Prop := gradeCornersUptoRow.holds Try.pinned (OpenSpec.upto gradeCornersSpec)

/-- 'garmentlaw21.GradeBack', WHERE WHAT IT READS IS OF BULK AT MOST 1048576: true; the input reads as it did. -/
def gradeBackUptoRow : OpenClaim := { program := "ytpmfikkcidgoeaa", sum := "08b81cbf45b78c27d31015068f35946d8c0655f41c703ac6571f1632defce853", func := "garment/garmentlaw21.GradeBack", spec := "gradeBack", unfollowed := true, recurses := true, apart := false, narrowed := true }
def GradeBackUptoSaid : Prop := gradeBackUptoRow.holds Try.pinned (OpenSpec.upto gradeBackSpec)

/-- 'garmentlaw21.GradeSameAreas', WHERE WHAT IT READS IS OF BULK AT MOST 1048576: true; the input reads as it did. -/
def gradeSameAreasUptoRow : OpenClaim := { program := "ytpmfikkcidgoeaa", sum := "08b81cbf45b78c27d31015068f35946d8c0655f41c703ac6571f1632defce853", func := "garment/garmentlaw21.GradeSameAreas", spec := "gradeSameAreas", unfollowed := true, recurses := true, apart := false, narrowed := true }
def GradeSameAreasUptoSaid : Prop := gradeSameAreasUptoRow.holds Try.pinned (OpenSpec.upto gradeSameAreasSpec)

/-- 'garmentlaw21.GradeMoves', WHERE WHAT IT READS IS OF BULK AT MOST 1048576: true; the input reads as it did. -/
def gradeMovesUptoRow : OpenClaim := { program := "ytpmfikkcidgoeaa", sum := "08b81cbf45b78c27d31015068f35946d8c0655f41c703ac6571f1632defce853", func := "garment/garmentlaw21.GradeMoves", spec := "gradeMoves", unfollowed := true, recurses := true, apart := false, narrowed := true }
def GradeMovesUptoSaid : Prop := gradeMovesUptoRow.holds Try.pinned (OpenSpec.upto gradeMovesSpec)

/-- 'garmentlaw21.GradeComposes', WHERE WHAT IT READS IS OF BULK AT MOST 1048576: true; the input reads as it did. -/
def gradeComposesUptoRow : OpenClaim := { program := "ytpmfikkcidgoeaa", sum := "08b81cbf45b78c27d31015068f35946d8c0655f41c703ac6571f1632defce853", func := "garment/garmentlaw21.GradeComposes", spec := "gradeComposes", unfollowed := true, recurses := true, apart := false, narrowed := true }
def GradeComposesUptoSaid : Prop := gradeComposesUptoRow.holds Try.pinned (OpenSpec.upto gradeComposesSpec)

end Rows
end Go.Proofs.Ytpmfikkcidgoeaa
