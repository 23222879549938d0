/- Plain: a turn of a spot. No program in sight. -/
import Derived.Test.YtnfchkkokgmliaaKOwn
namespace Go.Proofs.Ytnfchkkokgmliaa
open Go.RowKit
abbrev TV (f : Bool) (q : Int) : Value := .agg #[.bool f, .int .i64 q]
def quart (s : Spot) : Spot := (wrap64 (-s.2), s.1)
def quarts : Nat → Spot → Spot
  | 0, s => s
  | n + 1, s => quart (quarts n s)
def flipS (f : Bool) (s : Spot) : Spot := if f = true then (wrap64 (-s.1), s.2) else s
def applyT (f : Bool) (q : Int) (s : Spot) : Spot := quarts (q % 4).toNat (flipS f s)
end Go.Proofs.Ytnfchkkokgmliaa
