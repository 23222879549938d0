/-
  No cell of these rows narrows 'for every input' (looked for: loops, veiled, ifaces, maps, wideKeys, modest, calm, conditions, laid).
  DERIVED. THE GIVEN ROWS OF THIS SEAT. 8 by the template 'for every input the law returns true; each argument reads behind the call as it read before'; 0 by the template 'total and deterministic' (their statements: YtkigmpholnfkbaaGreatTotals.lean).
  GIVEN WITH THE SEED: the statements are not yours to turn. If you find one false, say at which input.
  Laid BY PROGRAM, IN A SANDBOX (cutbox-rows.mjs): the forced cells as the released guide's own fill.sh prints them over the translation 9aa4ba166fd2bbc1… (all of the seat's roots in one cut). By AI agents, Wed Nov 11 2026. No macro, syntax, notation, axiom, sorry.
-/
import Derived.Test.YtkigmpholnfkbaaGreatChecked
import GoSem.Claim
import GoSem.ClaimJoined
import GoSem.ClaimMapViews
import Derived.JoinedTies
import Derived.KernelRfl
namespace Go.Proofs.YtkigmpholnfkbaaGreat
/- THE CELL 'sum', in the pinned program and in every row, IS THE sha256 OF THE DUMP (.gsa) THAT YtkigmpholnfkbaaGreatProg.lean LOADS. Nothing in Lean hashes anything: it is a label: what it is worth is what the hold of that sum in a sandbox is worth. -/
noncomputable def Tryz.pinned : Pinned := { name := "ytkigmpholnfkbaagreat", sum := "9aa4ba166fd2bbc18f55e80bf30088a55a93660a909cac808ab56b4917619cc7", checked := Tryz.checked }
namespace Rows
def none {H : Type} : Left H := { results := [], args := [] }

/-- 'garmentlaw52.SpecChecks': WHATEVER THE INPUT: true; the input reads as it did. -/
def specChecksSpec : ChangeSpec := { name := "specChecks", fn := fun _ => fun
  | [d1, d2] => { results := [.lit (.bool true)], args := [d1, d2] }
  | _ => none }
def specChecksRow : OpenClaim := { program := "ytkigmpholnfkbaagreat", sum := "9aa4ba166fd2bbc18f55e80bf30088a55a93660a909cac808ab56b4917619cc7", func := "garment/garmentlaw52.SpecChecks", spec := "specChecks", unfollowed := true, recurses := true, named := ["math/bits.divideError", "math/bits.overflowError"], apart := false }
def SpecChecksSaid : Prop := specChecksRow.holds Tryz.pinned (OpenSpec.ofChange specChecksSpec)

/-- ITS FALSE NEIGHBOUR: 'it returns false'. Refute it at one input. -/
def specChecksWrong : ChangeSpec := { name := "specChecks", fn := fun _ => fun
  | [d1, d2] => { results := [.lit (.bool false)], args := [d1, d2] }
  | _ => none }
def SpecChecksWrongFalsely : Prop := specChecksRow.holds Tryz.pinned (OpenSpec.ofChange specChecksWrong)

/-- 'garmentlaw52.SpecTargets': WHATEVER THE INPUT: true; the input reads as it did. -/
def specTargetsSpec : ChangeSpec := { name := "specTargets", fn := fun _ => fun
  | [d1, d2, d3] => { results := [.lit (.bool true)], args := [d1, d2, d3] }
  | _ => none }
def specTargetsRow : OpenClaim := { program := "ytkigmpholnfkbaagreat", sum := "9aa4ba166fd2bbc18f55e80bf30088a55a93660a909cac808ab56b4917619cc7", func := "garment/garmentlaw52.SpecTargets", spec := "specTargets", unfollowed := true, recurses := true, named := ["math/bits.divideError", "math/bits.overflowError"], apart := false }
def SpecTargetsSaid : Prop := specTargetsRow.holds Tryz.pinned (OpenSpec.ofChange specTargetsSpec)

/-- ITS FALSE NEIGHBOUR: 'it returns false'. Refute it at one input. -/
def specTargetsWrong : ChangeSpec := { name := "specTargets", fn := fun _ => fun
  | [d1, d2, d3] => { results := [.lit (.bool false)], args := [d1, d2, d3] }
  | _ => none }
def SpecTargetsWrongFalsely : Prop := specTargetsRow.holds Tryz.pinned (OpenSpec.ofChange specTargetsWrong)

/-- 'garmentlaw52.SpecJudges': WHATEVER THE INPUT: true; the input reads as it did. -/
def specJudgesSpec : ChangeSpec := { name := "specJudges", fn := fun _ => fun
  | [d1, d2, d3, d4] => { results := [.lit (.bool true)], args := [d1, d2, d3, d4] }
  | _ => none }
def specJudgesRow : OpenClaim := { program := "ytkigmpholnfkbaagreat", sum := "9aa4ba166fd2bbc18f55e80bf30088a55a93660a909cac808ab56b4917619cc7", func := "garment/garmentlaw52.SpecJudges", spec := "specJudges", unfollowed := true, recurses := true, named := ["math/bits.divideError", "math/bits.overflowError"], apart := false }
def SpecJudgesSaid : Prop := specJudgesRow.holds Tryz.pinned (OpenSpec.ofChange specJudgesSpec)

/-- ITS FALSE NEIGHBOUR: 'it returns false'. Refute it at one input. -/
def specJudgesWrong : ChangeSpec := { name := "specJudges", fn := fun _ => fun
  | [d1, d2, d3, d4] => { results := [.lit (.bool false)], args := [d1, d2, d3, d4] }
  | _ => none }
def SpecJudgesWrongFalsely : Prop := specJudgesRow.holds Tryz.pinned (OpenSpec.ofChange specJudgesWrong)

/-- 'garmentlaw52.SpecWithin': WHATEVER THE INPUT: true; the input reads as it did. -/
def specWithinSpec : ChangeSpec := { name := "specWithin", fn := fun _ => fun
  | [d1, d2, d3, d4] => { results := [.lit (.bool true)], args := [d1, d2, d3, d4] }
  | _ => none }
def specWithinRow : OpenClaim := { program := "ytkigmpholnfkbaagreat", sum := "9aa4ba166fd2bbc18f55e80bf30088a55a93660a909cac808ab56b4917619cc7", func := "garment/garmentlaw52.SpecWithin", spec := "specWithin", unfollowed := true, recurses := true, named := ["math/bits.divideError", "math/bits.overflowError"], apart := false }
def SpecWithinSaid : Prop := specWithinRow.holds Tryz.pinned (OpenSpec.ofChange specWithinSpec)

/-- ITS FALSE NEIGHBOUR: 'it returns false'. Refute it at one input. -/
def specWithinWrong : ChangeSpec := { name := "specWithin", fn := fun _ => fun
  | [d1, d2, d3, d4] => { results := [.lit (.bool false)], args := [d1, d2, d3, d4] }
  | _ => none }
def SpecWithinWrongFalsely : Prop := specWithinRow.holds Tryz.pinned (OpenSpec.ofChange specWithinWrong)

/-- 'garmentlaw52.SpecAdds': WHATEVER THE INPUT: true; the input reads as it did. -/
def specAddsSpec : ChangeSpec := { name := "specAdds", fn := fun _ => fun
  | [d1, d2, d3] => { results := [.lit (.bool true)], args := [d1, d2, d3] }
  | _ => none }
def specAddsRow : OpenClaim := { program := "ytkigmpholnfkbaagreat", sum := "9aa4ba166fd2bbc18f55e80bf30088a55a93660a909cac808ab56b4917619cc7", func := "garment/garmentlaw52.SpecAdds", spec := "specAdds", unfollowed := true, recurses := true, named := ["math/bits.divideError", "math/bits.overflowError"], apart := false }
def SpecAddsSaid : Prop := specAddsRow.holds Tryz.pinned (OpenSpec.ofChange specAddsSpec)

/-- ITS FALSE NEIGHBOUR: 'it returns false'. Refute it at one input. -/
def specAddsWrong : ChangeSpec := { name := "specAdds", fn := fun _ => fun
  | [d1, d2, d3] => { results := [.lit (.bool false)], args := [d1, d2, d3] }
  | _ => none }
def SpecAddsWrongFalsely : Prop := specAddsRow.holds Tryz.pinned (OpenSpec.ofChange specAddsWrong)

/-- 'garmentlaw52.SpecLengths': WHATEVER THE INPUT: true; the input reads as it did. -/
def specLengthsSpec : ChangeSpec := { name := "specLengths", fn := fun _ => fun
  | [d1, d2, d3, d4] => { results := [.lit (.bool true)], args := [d1, d2, d3, d4] }
  | _ => none }
def specLengthsRow : OpenClaim := { program := "ytkigmpholnfkbaagreat", sum := "9aa4ba166fd2bbc18f55e80bf30088a55a93660a909cac808ab56b4917619cc7", func := "garment/garmentlaw52.SpecLengths", spec := "specLengths", unfollowed := true, recurses := true, named := ["math/bits.divideError", "math/bits.overflowError"], apart := false }
def SpecLengthsSaid : Prop := specLengthsRow.holds Tryz.pinned (OpenSpec.ofChange specLengthsSpec)

/-- ITS FALSE NEIGHBOUR: 'it returns false'. Refute it at one input. -/
def specLengthsWrong : ChangeSpec := { name := "specLengths", fn := fun _ => fun
  | [d1, d2, d3, d4] => { results := [.lit (.bool false)], args := [d1, d2, d3, d4] }
  | _ => none }
def SpecLengthsWrongFalsely : Prop := specLengthsRow.holds Tryz.pinned (OpenSpec.ofChange specLengthsWrong)

/-- 'garmentlaw52.SpecTolerance': WHATEVER THE INPUT: true; the input reads as it did. -/
def specToleranceSpec : ChangeSpec := { name := "specTolerance", fn := fun _ => fun
  | [d1, d2, d3, d4, d5, d6, d7] => { results := [.lit (.bool true)], args := [d1, d2, d3, d4, d5, d6, d7] }
  | _ => none }
def specToleranceRow : OpenClaim := { program := "ytkigmpholnfkbaagreat", sum := "9aa4ba166fd2bbc18f55e80bf30088a55a93660a909cac808ab56b4917619cc7", func := "garment/garmentlaw52.SpecTolerance", spec := "specTolerance", unfollowed := true, recurses := true, named := ["math/bits.divideError", "math/bits.overflowError"], apart := false }
def SpecToleranceSaid : Prop := specToleranceRow.holds Tryz.pinned (OpenSpec.ofChange specToleranceSpec)

/-- ITS FALSE NEIGHBOUR: 'it returns false'. Refute it at one input. -/
def specToleranceWrong : ChangeSpec := { name := "specTolerance", fn := fun _ => fun
  | [d1, d2, d3, d4, d5, d6, d7] => { results := [.lit (.bool false)], args := [d1, d2, d3, d4, d5, d6, d7] }
  | _ => none }
def SpecToleranceWrongFalsely : Prop := specToleranceRow.holds Tryz.pinned (OpenSpec.ofChange specToleranceWrong)

/-- 'garmentlaw52.SpecTurned': WHATEVER THE INPUT: true; the input reads as it did. -/
def specTurnedSpec : ChangeSpec := { name := "specTurned", fn := fun _ => fun
  | [d1, d2, d3, d4, d5] => { results := [.lit (.bool true)], args := [d1, d2, d3, d4, d5] }
  | _ => none }
def specTurnedRow : OpenClaim := { program := "ytkigmpholnfkbaagreat", sum := "9aa4ba166fd2bbc18f55e80bf30088a55a93660a909cac808ab56b4917619cc7", func := "garment/garmentlaw52.SpecTurned", spec := "specTurned", unfollowed := true, recurses := true, named := ["math/bits.divideError", "math/bits.overflowError"], apart := false }
def SpecTurnedSaid : Prop := specTurnedRow.holds Tryz.pinned (OpenSpec.ofChange specTurnedSpec)

/-- ITS FALSE NEIGHBOUR: 'it returns false'. Refute it at one input. -/
def specTurnedWrong : ChangeSpec := { name := "specTurned", fn := fun _ => fun
  | [d1, d2, d3, d4, d5] => { results := [.lit (.bool false)], args := [d1, d2, d3, d4, d5] }
  | _ => none }
def SpecTurnedWrongFalsely : Prop := specTurnedRow.holds Tryz.pinned (OpenSpec.ofChange specTurnedWrong)

/- THE SECOND FORM. 'bulk': how many values and letters a reading holds, each counted each time it is reached (what is shared counts as often as it is met; a slice's spare places count too). A statement '..UptoSaid' is the law's where the arguments, and the package variables that the reading takes, are together of bulk at most 1048576: NARROWER than '..Said'. Prove '..Said' where nothing that the law and all that it calls make is longer than what came in: it says more and counts as full. Else prove '..UptoSaid'. A law counts once. -/
mutual
def uptoBulk {H : Type} : DataW H → Nat
  | .lit (.string bytes) => bytes.length + 1
  | .lit _ => 1
  | .nil => 1
  | .ptr d => uptoBulk d + 1
  | .slice elems spare => uptoBulkAll elems + uptoBulkAll spare + 1
  | .agg parts => uptoBulkAll parts + 1
  | .iface _ d => uptoBulk d + 1
  | .map entries => uptoBulkEntries entries + 1
  | .held _ => 1
def uptoBulkAll {H : Type} : List (DataW H) → Nat
  | [] => 0
  | d :: r => uptoBulk d + uptoBulkAll r
def uptoBulkEntries {H : Type} : List (Lit × DataW H) → Nat
  | [] => 0
  | x :: r => uptoBulkEntry x + uptoBulkEntries r
def uptoBulkEntry {H : Type} : Lit × DataW H → Nat
  | (.string bytes, d) => bytes.length + uptoBulk d + 1
  | (_, d) => uptoBulk d + 1
 end
def uptoSmall : (H : Type) → List (DataW H) → Bool := fun _ ds => decide (uptoBulkAll ds ≤ 1048576)
def OpenSpec.upto (s : _root_.Go.ChangeSpec) : _root_.Go.OpenSpec := { _root_.Go.OpenSpec.ofChange s with cond := some uptoSmall }

/-- 'garmentlaw52.SpecChecks', WHERE WHAT IT READS IS OF BULK AT MOST 1048576: true; the input reads as it did. -/
def specChecksUptoRow : OpenClaim := { program := "ytkigmpholnfkbaagreat", sum := "9aa4ba166fd2bbc18f55e80bf30088a55a93660a909cac808ab56b4917619cc7", func := "garment/garmentlaw52.SpecChecks", spec := "specChecks", unfollowed := true, recurses := true, named := ["math/bits.divideError", "math/bits.overflowError"], apart := false, narrowed := true }
def SpecChecksUptoSaid : Prop := specChecksUptoRow.holds Tryz.pinned (OpenSpec.upto specChecksSpec)

/-- 'garmentlaw52.SpecTargets', WHERE WHAT IT READS IS OF BULK AT MOST 1048576: true; the input reads as it did. -/
def specTargetsUptoRow : OpenClaim := { program := "ytkigmpholnfkbaagreat", sum := "9aa4ba166fd2bbc18f55e80bf30088a55a93660a909cac808ab56b4917619cc7", func := "garment/garmentlaw52.SpecTargets", spec := "specTargets", unfollowed := true, recurses := true, named := ["math/bits.divideError", "math/bits.overflowError"], apart := false, narrowed := true }
def SpecTargetsUptoSaid : Prop := specTargetsUptoRow.holds Tryz.pinned (OpenSpec.upto specTargetsSpec)

/-- 'garmentlaw52.SpecJudges', WHERE WHAT IT READS IS OF BULK AT MOST 1048576: true; the input reads as it did. -/
def specJudgesUptoRow : OpenClaim := { program := "ytkigmpholnfkbaagreat", sum := "9aa4ba166fd2bbc18f55e80bf30088a55a93660a909cac808ab56b4917619cc7", func := "garment/garmentlaw52.SpecJudges", spec := "specJudges", unfollowed := true, recurses := true, named := ["math/bits.divideError", "math/bits.overflowError"], apart := false, narrowed := true }
def SpecJudgesUptoSaid : Prop := specJudgesUptoRow.holds Tryz.pinned (OpenSpec.upto specJudgesSpec)

/-- 'garmentlaw52.SpecWithin', WHERE WHAT IT READS IS OF BULK AT MOST 1048576: true; the input reads as it did. -/
def specWithinUptoRow : OpenClaim := { program := "ytkigmpholnfkbaagreat", sum := "9aa4ba166fd2bbc18f55e80bf30088a55a93660a909cac808ab56b4917619cc7", func := "garment/garmentlaw52.SpecWithin", spec := "specWithin", unfollowed := true, recurses := true, named := ["math/bits.divideError", "math/bits.overflowError"], apart := false, narrowed := true }
def SpecWithinUptoSaid : Prop := specWithinUptoRow.holds Tryz.pinned (OpenSpec.upto specWithinSpec)

/-- 'garmentlaw52.SpecAdds', WHERE WHAT IT READS IS OF BULK AT MOST 1048576: true; the input reads as it did. -/
def specAddsUptoRow : OpenClaim := { program := "ytkigmpholnfkbaagreat", sum := "9aa4ba166fd2bbc18f55e80bf30088a55a93660a909cac808ab56b4917619cc7", func := "garment/garmentlaw52.SpecAdds", spec := "specAdds", unfollowed := true, recurses := true, named := ["math/bits.divideError", "math/bits.overflowError"], apart := false, narrowed := true }
def SpecAddsUptoSaid : Prop := specAddsUptoRow.holds Tryz.pinned (OpenSpec.upto specAddsSpec)

/-- 'garmentlaw52.SpecLengths', WHERE WHAT IT READS IS OF BULK AT MOST 1048576: true; the input reads as it did. -/
def specLengthsUptoRow : OpenClaim := { program := "ytkigmpholnfkbaagreat", sum := "9aa4ba166fd2bbc18f55e80bf30088a55a93660a909cac808ab56b4917619cc7", func := "garment/garmentlaw52.SpecLengths", spec := "specLengths", unfollowed := true, recurses := true, named := ["math/bits.divideError", "math/bits.overflowError"], apart := false, narrowed := true }
def SpecLengthsUptoSaid : Prop := specLengthsUptoRow.holds Tryz.pinned (OpenSpec.upto specLengthsSpec)

/-- 'garmentlaw52.SpecTolerance', WHERE WHAT IT READS IS OF BULK AT MOST 1048576: true; the input reads as it did. -/
def specToleranceUptoRow : OpenClaim := { program := "ytkigmpholnfkbaagreat", sum := "9aa4ba166fd2bbc18f55e80bf30088a55a93660a909cac808ab56b4917619cc7", func := "garment/garmentlaw52.SpecTolerance", spec := "specTolerance", unfollowed := true, recurses := true, named := ["math/bits.divideError", "math/bits.overflowError"], apart := false, narrowed := true }
def SpecToleranceUptoSaid : Prop := specToleranceUptoRow.holds Tryz.pinned (OpenSpec.upto specToleranceSpec)

/-- 'garmentlaw52.SpecTurned', WHERE WHAT IT READS IS OF BULK AT MOST 1048576: true; the input reads as it did. -/
def specTurnedUptoRow : OpenClaim := { program := "ytkigmpholnfkbaagreat", sum := "9aa4ba166fd2bbc18f55e80bf30088a55a93660a909cac808ab56b4917619cc7", func := "garment/garmentlaw52.SpecTurned", spec := "specTurned", unfollowed := true, recurses := true, named := ["math/bits.divideError", "math/bits.overflowError"], apart := false, narrowed := true }
def SpecTurnedUptoSaid : Prop := specTurnedUptoRow.holds Tryz.pinned (OpenSpec.upto specTurnedSpec)

end Rows
end Go.Proofs.YtkigmpholnfkbaaGreat
