/-
  No cell of these rows narrows 'for every input' (looked for: loops, veiled, ifaces, maps, wideKeys, modest, calm, conditions, laid).
  DERIVED. THE GIVEN ROWS OF THIS SEAT. 7 by the template 'for every input the law returns true; each argument reads behind the call as it read before'; 0 by the template 'total and deterministic' (their statements: YtilkgocpkhionaaTotals.lean).
  GIVEN WITH THE SEED: the statements are not yours to turn. If you find one false, say at which input.
  Laid BY PROGRAM, IN A SANDBOX (cutbox-rows.mjs): the forced cells as the released guide's own fill.sh prints them over the translation cccffc3866ef82aa… (all of the seat's roots in one cut). By AI agents, Wed Nov 11 2026. No macro, syntax, notation, axiom, sorry.
-/
import Derived.Test.YtilkgocpkhionaaChecked
import GoSem.Claim
import GoSem.ClaimJoined
import GoSem.ClaimMapViews
import Derived.JoinedTies
import Derived.KernelRfl
namespace Go.Proofs.Ytilkgocpkhionaa
/- THE CELL 'sum', in the pinned program and in every row, IS THE sha256 OF THE DUMP (.gsa) THAT YtilkgocpkhionaaProg.lean LOADS. Nothing in Lean hashes anything: it is a label: what it is worth is what the hold of that sum in a sandbox is worth. -/
noncomputable def Try.pinned : Pinned := { name := "ytilkgocpkhionaa", sum := "cccffc3866ef82aace909c76e3f4a81f2555ea12613cf19f057b01c0ae17ce70", checked := Try.checked }
namespace Rows
def none {H : Type} : Left H := { results := [], args := [] }

/-- 'garmentlaw22.SeamPartners': WHATEVER THE INPUT: true; the input reads as it did. -/
def seamPartnersSpec : ChangeSpec := { name := "seamPartners", fn := fun _ => fun
  | [d] => { results := [.lit (.bool true)], args := [d] }
  | _ => none }
def seamPartnersRow : OpenClaim := { program := "ytilkgocpkhionaa", sum := "cccffc3866ef82aace909c76e3f4a81f2555ea12613cf19f057b01c0ae17ce70", func := "garment/garmentlaw22.SeamPartners", spec := "seamPartners", unfollowed := true, recurses := true, named := ["math/bits.divideError", "math/bits.overflowError"], apart := false }
def SeamPartnersSaid : Prop := seamPartnersRow.holds Try.pinned (OpenSpec.ofChange seamPartnersSpec)

/-- ITS FALSE NEIGHBOUR: 'it returns false'. Refute it at one input. -/
def seamPartnersWrong : ChangeSpec := { name := "seamPartners", fn := fun _ => fun
  | [d] => { results := [.lit (.bool false)], args := [d] }
  | _ => none }
def SeamPartnersWrongFalsely : Prop := seamPartnersRow.holds Try.pinned (OpenSpec.ofChange seamPartnersWrong)

/-- 'garmentlaw22.SeamCongruents': WHATEVER THE INPUT: true; the input reads as it did. -/
def seamCongruentsSpec : ChangeSpec := { name := "seamCongruents", fn := fun _ => fun
  | [d1, d2] => { results := [.lit (.bool true)], args := [d1, d2] }
  | _ => none }
def seamCongruentsRow : OpenClaim := { program := "ytilkgocpkhionaa", sum := "cccffc3866ef82aace909c76e3f4a81f2555ea12613cf19f057b01c0ae17ce70", func := "garment/garmentlaw22.SeamCongruents", spec := "seamCongruents", unfollowed := true, recurses := true, named := ["math/bits.divideError", "math/bits.overflowError"], apart := false }
def SeamCongruentsSaid : Prop := seamCongruentsRow.holds Try.pinned (OpenSpec.ofChange seamCongruentsSpec)

/-- ITS FALSE NEIGHBOUR: 'it returns false'. Refute it at one input. -/
def seamCongruentsWrong : ChangeSpec := { name := "seamCongruents", fn := fun _ => fun
  | [d1, d2] => { results := [.lit (.bool false)], args := [d1, d2] }
  | _ => none }
def SeamCongruentsWrongFalsely : Prop := seamCongruentsRow.holds Try.pinned (OpenSpec.ofChange seamCongruentsWrong)

/-- 'garmentlaw22.SeamPartner': WHATEVER THE INPUT: true; the input reads as it did. -/
def seamPartnerSpec : ChangeSpec := { name := "seamPartner", fn := fun _ => fun
  | [d1, d2, d3] => { results := [.lit (.bool true)], args := [d1, d2, d3] }
  | _ => none }
def seamPartnerRow : OpenClaim := { program := "ytilkgocpkhionaa", sum := "cccffc3866ef82aace909c76e3f4a81f2555ea12613cf19f057b01c0ae17ce70", func := "garment/garmentlaw22.SeamPartner", spec := "seamPartner", unfollowed := true, recurses := true, named := ["math/bits.divideError", "math/bits.overflowError"], apart := false }
def SeamPartnerSaid : Prop := seamPartnerRow.holds Try.pinned (OpenSpec.ofChange seamPartnerSpec)

/-- ITS FALSE NEIGHBOUR: 'it returns false'. Refute it at one input. -/
def seamPartnerWrong : ChangeSpec := { name := "seamPartner", fn := fun _ => fun
  | [d1, d2, d3] => { results := [.lit (.bool false)], args := [d1, d2, d3] }
  | _ => none }
def SeamPartnerWrongFalsely : Prop := seamPartnerRow.holds Try.pinned (OpenSpec.ofChange seamPartnerWrong)

/-- 'garmentlaw22.SeamSides': WHATEVER THE INPUT: true; the input reads as it did. -/
def seamSidesSpec : ChangeSpec := { name := "seamSides", fn := fun _ => fun
  | [d1, d2, d3] => { results := [.lit (.bool true)], args := [d1, d2, d3] }
  | _ => none }
def seamSidesRow : OpenClaim := { program := "ytilkgocpkhionaa", sum := "cccffc3866ef82aace909c76e3f4a81f2555ea12613cf19f057b01c0ae17ce70", func := "garment/garmentlaw22.SeamSides", spec := "seamSides", unfollowed := true, recurses := true, named := ["math/bits.divideError", "math/bits.overflowError"], apart := false }
def SeamSidesSaid : Prop := seamSidesRow.holds Try.pinned (OpenSpec.ofChange seamSidesSpec)

/-- ITS FALSE NEIGHBOUR: 'it returns false'. Refute it at one input. -/
def seamSidesWrong : ChangeSpec := { name := "seamSides", fn := fun _ => fun
  | [d1, d2, d3] => { results := [.lit (.bool false)], args := [d1, d2, d3] }
  | _ => none }
def SeamSidesWrongFalsely : Prop := seamSidesRow.holds Try.pinned (OpenSpec.ofChange seamSidesWrong)

/-- 'garmentlaw22.SeamGrades': WHATEVER THE INPUT: true; the input reads as it did. -/
def seamGradesSpec : ChangeSpec := { name := "seamGrades", fn := fun _ => fun
  | [d1, d2, d3] => { results := [.lit (.bool true)], args := [d1, d2, d3] }
  | _ => none }
def seamGradesRow : OpenClaim := { program := "ytilkgocpkhionaa", sum := "cccffc3866ef82aace909c76e3f4a81f2555ea12613cf19f057b01c0ae17ce70", func := "garment/garmentlaw22.SeamGrades", spec := "seamGrades", unfollowed := true, recurses := true, named := ["math/bits.divideError", "math/bits.overflowError"], apart := false }
def SeamGradesSaid : Prop := seamGradesRow.holds Try.pinned (OpenSpec.ofChange seamGradesSpec)

/-- ITS FALSE NEIGHBOUR: 'it returns false'. Refute it at one input. -/
def seamGradesWrong : ChangeSpec := { name := "seamGrades", fn := fun _ => fun
  | [d1, d2, d3] => { results := [.lit (.bool false)], args := [d1, d2, d3] }
  | _ => none }
def SeamGradesWrongFalsely : Prop := seamGradesRow.holds Try.pinned (OpenSpec.ofChange seamGradesWrong)

/-- 'garmentlaw22.SeamMoves': WHATEVER THE INPUT: true; the input reads as it did. -/
def seamMovesSpec : ChangeSpec := { name := "seamMoves", fn := fun _ => fun
  | [d1, d2, d3] => { results := [.lit (.bool true)], args := [d1, d2, d3] }
  | _ => none }
def seamMovesRow : OpenClaim := { program := "ytilkgocpkhionaa", sum := "cccffc3866ef82aace909c76e3f4a81f2555ea12613cf19f057b01c0ae17ce70", func := "garment/garmentlaw22.SeamMoves", spec := "seamMoves", unfollowed := true, recurses := true, named := ["math/bits.divideError", "math/bits.overflowError"], apart := false }
def SeamMovesSaid : Prop := seamMovesRow.holds Try.pinned (OpenSpec.ofChange seamMovesSpec)

/-- ITS FALSE NEIGHBOUR: 'it returns false'. Refute it at one input. -/
def seamMovesWrong : ChangeSpec := { name := "seamMoves", fn := fun _ => fun
  | [d1, d2, d3] => { results := [.lit (.bool false)], args := [d1, d2, d3] }
  | _ => none }
def SeamMovesWrongFalsely : Prop := seamMovesRow.holds Try.pinned (OpenSpec.ofChange seamMovesWrong)

/-- 'garmentlaw22.SeamEase': WHATEVER THE INPUT: true; the input reads as it did. -/
def seamEaseSpec : ChangeSpec := { name := "seamEase", fn := fun _ => fun
  | [d1, d2] => { results := [.lit (.bool true)], args := [d1, d2] }
  | _ => none }
def seamEaseRow : OpenClaim := { program := "ytilkgocpkhionaa", sum := "cccffc3866ef82aace909c76e3f4a81f2555ea12613cf19f057b01c0ae17ce70", func := "garment/garmentlaw22.SeamEase", spec := "seamEase", unfollowed := true, recurses := true, named := ["math/bits.divideError", "math/bits.overflowError"], apart := false }
def SeamEaseSaid : Prop := seamEaseRow.holds Try.pinned (OpenSpec.ofChange seamEaseSpec)

/-- ITS FALSE NEIGHBOUR: 'it returns false'. Refute it at one input. -/
def seamEaseWrong : ChangeSpec := { name := "seamEase", fn := fun _ => fun
  | [d1, d2] => { results := [.lit (.bool false)], args := [d1, d2] }
  | _ => none }
def SeamEaseWrongFalsely : Prop := seamEaseRow.holds Try.pinned (OpenSpec.ofChange seamEaseWrong)

/- THE SECOND FORM. 'bulk': how many values and letters a reading holds, each counted each time it is reached (what is shared counts as often as it is met; a slice's spare places count too). A statement '..UptoSaid' is the law's where the arguments, and the package variables that the reading takes, are together of bulk at most 1048576: NARROWER than '..Said'. Prove '..Said' where nothing that the law and all that it calls make is longer than what came in: it says more and counts as full. Else prove '..UptoSaid'. A law counts once. -/
mutual
def uptoBulk {H : Type} : DataW H → Nat
  | .lit (.string bytes) => bytes.length + 1
  | .lit _ => 1
  | .nil => 1
  | .ptr d => uptoBulk d + 1
  | .slice elems spare => uptoBulkAll elems + uptoBulkAll spare + 1
  | .agg parts => uptoBulkAll parts + 1
  | .iface _ d => uptoBulk d + 1
  | .map entries => uptoBulkEntries entries + 1
  | .held _ => 1
def uptoBulkAll {H : Type} : List (DataW H) → Nat
  | [] => 0
  | d :: r => uptoBulk d + uptoBulkAll r
def uptoBulkEntries {H : Type} : List (Lit × DataW H) → Nat
  | [] => 0
  | x :: r => uptoBulkEntry x + uptoBulkEntries r
def uptoBulkEntry {H : Type} : Lit × DataW H → Nat
  | (.string bytes, d) => bytes.length + uptoBulk d + 1
  | (_, d) => uptoBulk d + 1
 end
def uptoSmall : (H : Type) → List (DataW H) → Bool := fun _ ds => decide (uptoBulkAll ds ≤ 1048576)
def OpenSpec.upto (s : _root_.Go.ChangeSpec) : _root_.Go.OpenSpec := { _root_.Go.OpenSpec.ofChange s with cond := some uptoSmall }

/-- 'garmentlaw22.SeamPartners', WHERE WHAT IT READS IS OF BULK AT MOST 1048576: true; the input reads as it did. -/
def seamPartnersUptoRow : OpenClaim := { program := "ytilkgocpkhionaa", sum := "cccffc3866ef82aace909c76e3f4a81f2555ea12613cf19f057b01c0ae17ce70", func := "garment/garmentlaw22.SeamPartners", spec := "seamPartners", unfollowed := true, recurses := true, named := ["math/bits.divideError", "math/bits.overflowError"], apart := false, narrowed := true }
def SeamPartnersUptoSaid : Prop := seamPartnersUptoRow.holds Try.pinned (OpenSpec.upto seamPartnersSpec)

/-- 'garmentlaw22.SeamCongruents', WHERE WHAT IT READS IS OF BULK AT MOST 1048576: true; the input reads as it did. -/
def seamCongruentsUptoRow : OpenClaim := { program := "ytilkgocpkhionaa", sum := "cccffc3866ef82aace909c76e3f4a81f2555ea12613cf19f057b01c0ae17ce70", func := "garment/garmentlaw22.SeamCongruents", spec := "seamCongruents", unfollowed := true, recurses := true, named := ["math/bits.divideError", "math/bits.overflowError"], apart := false, narrowed := true }
def SeamCongruentsUptoSaid : Prop := seamCongruentsUptoRow.holds Try.pinned (OpenSpec.upto seamCongruentsSpec)

/-- 'garmentlaw22.SeamPartner', WHERE WHAT IT READS IS OF BULK AT MOST 1048576: true; the input reads as it did. -/
def seamPartnerUptoRow : OpenClaim := { program := "ytilkgocpkhionaa", sum := "cccffc3866ef82aace909c76e3f4a81f2555ea12613cf19f057b01c0ae17ce70", func := "garment/garmentlaw22.SeamPartner", spec := "seamPartner", unfollowed := true, recurses := true, named := ["math/bits.divideError", "math/bits.overflowError"], apart := false, narrowed := true }
def SeamPartnerUptoSaid : Prop := seamPartnerUptoRow.holds Try.pinned (OpenSpec.upto seamPartnerSpec)

/-- 'garmentlaw22.SeamSides', WHERE WHAT IT READS IS OF BULK AT MOST 1048576: true; the input reads as it did. -/
def seamSidesUptoRow : OpenClaim := { program := "ytilkgocpkhionaa", sum := "cccffc3866ef82aace909c76e3f4a81f2555ea12613cf19f057b01c0ae17ce70", func := "garment/garmentlaw22.SeamSides", spec := "seamSides", unfollowed := true, recurses := true, named := ["math/bits.divideError", "math/bits.overflowError"], apart := false, narrowed := true }
def SeamSidesUptoSaid : Prop := seamSidesUptoRow.holds Try.pinned (OpenSpec.upto seamSidesSpec)

/-- 'garmentlaw22.SeamGrades', WHERE WHAT IT READS IS OF BULK AT MOST 1048576: true; the input reads as it did. -/
def seamGradesUptoRow : OpenClaim := { program := "ytilkgocpkhionaa", sum := "cccffc3866ef82aace909c76e3f4a81f2555ea12613cf19f057b01c0ae17ce70", func := "garment/garmentlaw22.SeamGrades", spec := "seamGrades", unfollowed := true, recurses := true, named := ["math/bits.divideError", "math/bits.overflowError"], apart := false, narrowed := true }
def SeamGradesUptoSaid : Prop := seamGradesUptoRow.holds Try.pinned (OpenSpec.upto seamGradesSpec)

/-- 'garmentlaw22.SeamMoves', WHERE WHAT IT READS IS OF BULK AT MOST 1048576: true; the input reads as it did. -/
def seamMovesUptoRow : OpenClaim := { program := "ytilkgocpkhionaa", sum := "cccffc3866ef82aace909c76e3f4a81f2555ea12613cf19f057b01c0ae17ce70", func := "garment/garmentlaw22.SeamMoves", spec := "seamMoves", unfollowed := true, recurses := true, named := ["math/bits.divideError", "math/bits.overflowError"], apart := false, narrowed := true }
def SeamMovesUptoSaid : Prop := seamMovesUptoRow.holds Try.pinned (OpenSpec.upto seamMovesSpec)

/-- 'garmentlaw22.SeamEase', WHERE WHAT IT READS IS OF BULK AT MOST 1048576: true; the input reads as it did. -/
def seamEaseUptoRow : OpenClaim := { program := "ytilkgocpkhionaa", sum := "cccffc3866ef82aace909c76e3f4a81f2555ea12613cf19f057b01c0ae17ce70", func := "garment/garmentlaw22.SeamEase", spec := "seamEase", unfollowed := true, recurses := true, named := ["math/bits.divideError", "math/bits.overflowError"], apart := false, narrowed := true }
def SeamEaseUptoSaid : Prop := seamEaseUptoRow.holds Try.pinned (OpenSpec.upto seamEaseSpec)

end Rows
end Go.Proofs.Ytilkgocpkhionaa
