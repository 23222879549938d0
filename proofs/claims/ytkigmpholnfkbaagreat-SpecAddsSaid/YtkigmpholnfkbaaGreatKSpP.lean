/- words: points of measure; plain: their errors, targets, judgements. No program in sight. -/
import Derived.Test.YtkigmpholnfkbaaGreatKStX
namespace Go.Proofs.YtkigmpholnfkbaaGreat
open Go.RowKit
structure PomX where
  nm : ByteArray
  ps : List Int
  es : List Int
  pl : Int
  mi : Int
instance : Inhabited PomX := ⟨⟨⟨#[]⟩, [], [], 0, 0⟩⟩
def gPm (l : List PomX) (k : Nat) : PomX := l.getD k ⟨⟨#[]⟩, [], [], 0, 0⟩
theorem gPm_eq {l : List PomX} {k : Nat} (h : k < l.length) : gPm l k = l[k] := by simp [gPm, h]
/- where a point of measure lies -/
structure PomA where
  nm : ByteArray
  AP : Option Addr
  nP : Nat
  cP : Nat
  AE : Option Addr
  nE : Nat
  cE : Nat
  pl : Int
  mi : Int
abbrev PomA.val (a : PomA) : Value := .agg #[.string a.nm, .slice a.AP a.nP a.cP, .slice a.AE a.nE a.cE, .int .i64 a.pl, .int .i64 a.mi]
abbrev PomA.cells (a : PomA) : List Value := [.string a.nm, .slice a.AP a.nP a.cP, .slice a.AE a.nE a.cE, .int .i64 a.pl, .int .i64 a.mi]
structure PomAt (w : World) (a : PomA) (p : PomX) : Prop where
  nm : a.nm = p.nm
  P : IntsAt w a.AP p.ps
  lP : p.ps.length = a.nP
  E : IntsAt w a.AE p.es
  lE : p.es.length = a.nE
  pl : a.pl = p.pl
  mi : a.mi = p.mi
  bP : a.nP ≤ 9223372036854775807
  bE : a.nE ≤ 9223372036854775807
theorem PomAt.ext {w w' : World} {a : PomA} {p : PomX} (h : PomAt w a p) (he : Ext w w') : PomAt w' a p := ⟨h.nm, h.P.ext he, h.lP, h.E.ext he, h.lE, h.pl, h.mi, h.bP, h.bE⟩
structure PomCells (w : World) (b off : Nat) (a : PomA) : Prop where
  c0 : w.cell? ⟨b, off, none⟩ = some (.string a.nm)
  c1 : w.cell? ⟨b, off + 1, none⟩ = some (.slice a.AP a.nP a.cP)
  c2 : w.cell? ⟨b, off + 2, none⟩ = some (.slice a.AE a.nE a.cE)
  c3 : w.cell? ⟨b, off + 3, none⟩ = some (.int .i64 a.pl)
  c4 : w.cell? ⟨b, off + 4, none⟩ = some (.int .i64 a.mi)
theorem PomCells.ext {w w' : World} {b off : Nat} {a : PomA} (h : PomCells w b off a) (he : Ext w w') : PomCells w' b off a := ⟨he.cell h.c0, he.cell h.c1, he.cell h.c2, he.cell h.c3, he.cell h.c4⟩
def PomsAt (w : World) (A : Option Addr) (l : List PomX) : Prop := ∀ k, k < l.length → ∃ b off a, A = some ⟨b, off, none⟩ ∧ PomAt w a (gPm l k) ∧ PomCells w b (off + k * 5) a
theorem PomsAt.ext {w w' : World} {A : Option Addr} {l : List PomX} (h : PomsAt w A l) (he : Ext w w') : PomsAt w' A l := fun k hk => by
  obtain ⟨b, off, a, e, hp, hc⟩ := h k hk
  exact ⟨b, off, a, e, hp.ext he, hc.ext he⟩
/- errors of a list of points of measure -/
def pomRef (x : StyX) (p : PomX) (k : Nat) : Bool := edgeB x.s (gI p.ps k) (gI p.es k)
def pomE (x : StyX) (l : List PomX) (i : Nat) : Int :=
  if nameB (gPm l i).nm = false ∨ (gPm l i).es.length ≠ (gPm l i).ps.length ∨ (gPm l i).ps.length = 0 ∨ 16 < (gPm l i).ps.length then 1
  else if (List.range i).any (fun j => decide ((gPm l j).nm.data.toList = (gPm l i).nm.data.toList)) = true then 7
  else if allB (pomRef x (gPm l i)) (gPm l i).ps.length = false then 3
  else if (gPm l i).pl < 0 ∨ 1073741824 < (gPm l i).pl ∨ (gPm l i).mi < 0 ∨ 1073741824 < (gPm l i).mi then 3 else 0
def spcE (x : StyX) (l : List PomX) : Int := if styE x ≠ 0 then styE x else if 16 < l.length then 5 else firstE (pomE x l) l.length
/- targets -/
def tgR (x : StyX) (p : PomX) (m : Int) (k : Nat) : Int := gradedR (gPx x.ps (gI p.ps k).toNat).p.es (gPx x.ps (gI p.ps k).toNat).p.cs m
def tgN (x : StyX) (p : PomX) (m : Int) (k : Nat) : Nat := grdN (gPx x.ps (gI p.ps k).toNat).p m (gI p.es k).toNat
def tgTo (x : StyX) (p : PomX) (m : Int) : Nat → Nat
  | 0 => 0
  | k + 1 => tgTo x p m k + tgN x p m k
def tgE (x : StyX) (p : PomX) (m : Int) : Int := firstE (tgR x p m) p.ps.length
def tgV (x : StyX) (p : PomX) (m : Int) : Int := if tgE x p m ≠ 0 then 0 else (tgTo x p m p.ps.length : Int)
def targE (x : StyX) (p : PomX) (z : Int) : Int := if spcE x [p] ≠ 0 then spcE x [p] else if z < 0 ∨ (x.sz.length : Int) ≤ z then 3 else tgE x p (gI x.ms z.toNat)
def targV (x : StyX) (p : PomX) (z : Int) : Int := if targE x p z ≠ 0 then 0 else (tgTo x p (gI x.ms z.toNat) p.ps.length : Int)
/- judgements -/
def judV (p : PomX) (t v : Int) : Int := if v - (t - p.mi) < 0 then v - (t - p.mi) else if 0 < v - (t + p.pl) then v - (t + p.pl) else 0
def jdE (x : StyX) (l : List PomX) (m : Int) (vs : List Int) (i : Nat) : Int := if gI vs i < 0 ∨ 35184372088832 < gI vs i then 3 else tgE x (gPm l i) m
def judE (x : StyX) (l : List PomX) (z : Int) (vs : List Int) : Int :=
  if spcE x l ≠ 0 then spcE x l else if vs.length ≠ l.length then 1 else if z < 0 ∨ (x.sz.length : Int) ≤ z then 3 else firstE (jdE x l (gI x.ms z.toNat) vs) l.length
def judL (x : StyX) (l : List PomX) (z : Int) (vs : List Int) : List Int := (List.range l.length).map fun i => judV (gPm l i) (tgTo x (gPm l i) (gI x.ms z.toNat) (gPm l i).ps.length : Int) (gI vs i)
end Go.Proofs.YtkigmpholnfkbaaGreat
