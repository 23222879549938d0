/- Plain: a turned line, a turned outline. No program in sight. -/
import Derived.Test.YtfegbaokcbjllaaGreatKVert
/- Plain: a turn of a spot. No program in sight. -/
namespace Go.Proofs.YtfegbaokcbjllaaGreat
open Go.RowKit
abbrev TV (f : Bool) (q : Int) : Value := .agg #[.bool f, .int .i64 q]
def quart (s : Spot) : Spot := (wrap64 (-s.2), s.1)
def quarts : Nat → Spot → Spot
 |0, s => s
 |n + 1, s => quart (quarts n s)
def flipS (f : Bool) (s : Spot) : Spot := if f = true then (wrap64 (-s.1), s.2) else s
def applyT (f : Bool) (q : Int) (s : Spot) : Spot := quarts (q % 4).toNat (flipS f s)
def turnL (f : Bool) (q : Int) (l : List Spot) : List Spot := if f = true then (l.map (applyT f q)).reverse else l.map (applyT f q)
def turnI (f : Bool) (n i : Nat) : Nat := if f = true then (n - i) % n else i
def turnAt (f : Bool) (q : Int) (es : List Edge) (i : Nat) : Edge := ((gE es (turnI f es.length i)).1, turnL f q (gE es (turnI f es.length i)).2)
def turnE (f : Bool) (q : Int) (es : List Edge) : List Edge := (List.range es.length).map (turnAt f q es)
theorem turnE_len (f : Bool) (q : Int) (es : List Edge) : (turnE f q es).length = es.length := by simp [turnE]
theorem turnE_take {f : Bool} {q : Int} {es : List Edge} {k : Nat} (h : k < es.length) : (turnE f q es).take (k + 1) = (turnE f q es).take k ++ [turnAt f q es k] := by
 rw [take_succ _ _ (by rw [turnE_len]; exact h)]; simp [turnE]
theorem turnL_len (f : Bool) (q : Int) (l : List Spot) : (turnL f q l).length = l.length := by unfold turnL; split <;> simp
theorem map_take_succ {f : Bool} {q : Int} {l : List Spot} {k : Nat} (h : k < l.length) : (l.take (k + 1)).map (applyT f q) = (l.take k).map (applyT f q) ++ [applyT f q (gS l k)] := by
 rw [take_succ _ _ h, gS_eq h, List.map_append]; rfl
end Go.Proofs.YtfegbaokcbjllaaGreat
