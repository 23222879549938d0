/- words: a style in memory (its multiples, pieces, seams) -/
import Derived.Test.YtkigmpholnfkbaaGreatKGraded
import Derived.Test.YtkigmpholnfkbaaGreatKWd
import Derived.Test.YtkigmpholnfkbaaGreatKSeg
namespace Go.Proofs.YtkigmpholnfkbaaGreat
open Go.RowKit
structure Pc where
  es : List Edge
  cs : List Spot
  ws : List Int
  ns : List Spot
instance : Inhabited Pc := ⟨⟨[], [], [], []⟩⟩
structure Sm where
  pa : Int
  ea : Int
  pb : Int
  eb : Int
  rev : Bool
  ease : Int
instance : Inhabited Sm := ⟨⟨0, 0, 0, 0, false, 0⟩⟩
/- where a piece lies -/
structure PcA where
  nm : ByteArray
  AE : Option Addr
  nE : Nat
  cE : Nat
  gr : Int
  AN : Option Addr
  nN : Nat
  cN : Nat
  AC : Option Addr
  nC : Nat
  cC : Nat
  AW : Option Addr
  nW : Nat
  cW : Nat
  mt : Bool
abbrev PcA.val (a : PcA) : Value := .agg #[.string a.nm, .slice a.AE a.nE a.cE, .int .i64 a.gr, .slice a.AN a.nN a.cN, .slice a.AC a.nC a.cC, .slice a.AW a.nW a.cW, .bool a.mt]
abbrev PcA.cells (a : PcA) : List Value := [.string a.nm, .slice a.AE a.nE a.cE, .int .i64 a.gr, .slice a.AN a.nN a.cN, .slice a.AC a.nC a.cC, .slice a.AW a.nW a.cW, .bool a.mt]
structure PcAt (w : World) (a : PcA) (p : Pc) : Prop where
  e : EdgesAt w a.AE p.es
  le : p.es.length = a.nE
  ce : a.nE ≤ a.cE
  ce' : a.cE ≤ 9223372036854775807
  c : SpotsAt w a.AC p.cs
  lc : p.cs.length = a.nC
  nc : a.nC ≤ 9223372036854775807
  i : IntsAt w a.AW p.ws
  li : p.ws.length = a.nW
  n : SpotsAt w a.AN p.ns
  ln : p.ns.length = a.nN
  nn : a.nN ≤ 9223372036854775807
  nw : a.nW ≤ 9223372036854775807
theorem PcAt.ext {w w' : World} {a : PcA} {p : Pc} (h : PcAt w a p) (he : Ext w w') : PcAt w' a p :=
  ⟨h.e.ext he, h.le, h.ce, h.ce', h.c.ext he, h.lc, h.nc, h.i.ext he, h.li, h.n.ext he, h.ln, h.nn, h.nw⟩
def gPc (l : List Pc) (k : Nat) : Pc := l.getD k ⟨[], [], [], []⟩
theorem gPc_eq {l : List Pc} {k : Nat} (h : k < l.length) : gPc l k = l[k] := by simp [gPc, h]
/- the cells of a piece in a row -/
structure PcCells (w : World) (b off : Nat) (a : PcA) : Prop where
  c0 : w.cell? ⟨b, off, none⟩ = some (.string a.nm)
  c1 : w.cell? ⟨b, off + 1, none⟩ = some (.slice a.AE a.nE a.cE)
  c2 : w.cell? ⟨b, off + 2, none⟩ = some (.int .i64 a.gr)
  c3 : w.cell? ⟨b, off + 3, none⟩ = some (.slice a.AN a.nN a.cN)
  c4 : w.cell? ⟨b, off + 4, none⟩ = some (.slice a.AC a.nC a.cC)
  c5 : w.cell? ⟨b, off + 5, none⟩ = some (.slice a.AW a.nW a.cW)
  c6 : w.cell? ⟨b, off + 6, none⟩ = some (.bool a.mt)
theorem PcCells.ext {w w' : World} {b off : Nat} {a : PcA} (h : PcCells w b off a) (he : Ext w w') : PcCells w' b off a :=
  ⟨he.cell h.c0, he.cell h.c1, he.cell h.c2, he.cell h.c3, he.cell h.c4, he.cell h.c5, he.cell h.c6⟩
def PiecesAt (w : World) (A : Option Addr) (l : List Pc) : Prop :=
  ∀ k, k < l.length → ∃ b off a, A = some ⟨b, off, none⟩ ∧ PcAt w a (gPc l k) ∧ PcCells w b (off + k * 7) a
theorem PiecesAt.ext {w w' : World} {A : Option Addr} {l : List Pc} (h : PiecesAt w A l) (he : Ext w w') : PiecesAt w' A l := fun k hk => by
  obtain ⟨b, off, a, e, hp, hc⟩ := h k hk
  exact ⟨b, off, a, e, hp.ext he, hc.ext he⟩
theorem PiecesAt.nil {w : World} {A : Option Addr} : PiecesAt w A [] := fun _ hk => absurd hk (Nat.not_lt_zero _)
def gSm (l : List Sm) (k : Nat) : Sm := l.getD k ⟨0, 0, 0, 0, false, 0⟩
theorem gSm_eq {l : List Sm} {k : Nat} (h : k < l.length) : gSm l k = l[k] := by simp [gSm, h]
structure SmCells (w : World) (b off : Nat) (s : Sm) : Prop where
  c0 : w.cell? ⟨b, off, none⟩ = some (.int .i64 s.pa)
  c1 : w.cell? ⟨b, off + 1, none⟩ = some (.int .i64 s.ea)
  c2 : w.cell? ⟨b, off + 2, none⟩ = some (.int .i64 s.pb)
  c3 : w.cell? ⟨b, off + 3, none⟩ = some (.int .i64 s.eb)
  c4 : w.cell? ⟨b, off + 4, none⟩ = some (.bool s.rev)
  c5 : w.cell? ⟨b, off + 5, none⟩ = some (.int .i64 s.ease)
theorem SmCells.ext {w w' : World} {b off : Nat} {s : Sm} (h : SmCells w b off s) (he : Ext w w') : SmCells w' b off s :=
  ⟨he.cell h.c0, he.cell h.c1, he.cell h.c2, he.cell h.c3, he.cell h.c4, he.cell h.c5⟩
def SeamsAt (w : World) (A : Option Addr) (l : List Sm) : Prop :=
  ∀ k, k < l.length → ∃ b off, A = some ⟨b, off, none⟩ ∧ SmCells w b (off + k * 6) (gSm l k)
theorem SeamsAt.ext {w w' : World} {A : Option Addr} {l : List Sm} (h : SeamsAt w A l) (he : Ext w w') : SeamsAt w' A l := fun k hk => by
  obtain ⟨b, off, e, hc⟩ := h k hk
  exact ⟨b, off, e, hc.ext he⟩
theorem SeamsAt.nil {w : World} {A : Option Addr} : SeamsAt w A [] := fun _ hk => absurd hk (Nat.not_lt_zero _)
/- a style: what of it is read here -/
structure Sty where
  ms : List Int
  ps : List Pc
  ss : List Sm
/- where a style lies -/
structure StyA where
  nm : ByteArray
  AS : Option Addr
  nS : Nat
  cS : Nat
  AM : Option Addr
  nM : Nat
  cM : Nat
  AP : Option Addr
  nP : Nat
  cP : Nat
  AU : Option Addr
  nU : Nat
  cU : Nat
  AK : Option Addr
  nK : Nat
  cK : Nat
  AO : Option Addr
  nO : Nat
  cO : Nat
abbrev StyA.val (a : StyA) : Value := .agg #[.string a.nm, .slice a.AS a.nS a.cS, .slice a.AM a.nM a.cM, .slice a.AP a.nP a.cP, .slice a.AU a.nU a.cU, .slice a.AK a.nK a.cK, .slice a.AO a.nO a.cO]
abbrev StyA.cells (a : StyA) : List Value := [.string a.nm, .slice a.AS a.nS a.cS, .slice a.AM a.nM a.cM, .slice a.AP a.nP a.cP, .slice a.AU a.nU a.cU, .slice a.AK a.nK a.cK, .slice a.AO a.nO a.cO]
structure StyAt (w : World) (a : StyA) (s : Sty) : Prop where
  M : IntsAt w a.AM s.ms
  P : PiecesAt w a.AP s.ps
  K : SeamsAt w a.AK s.ss
  lM : s.ms.length = a.nM
  lP : s.ps.length = a.nP
  lK : s.ss.length = a.nK
  bM : a.nM ≤ 9223372036854775807
  bP : a.nP ≤ 9223372036854775807
  bK : a.nK ≤ 9223372036854775807
theorem StyAt.ext {w w' : World} {a : StyA} {s : Sty} (h : StyAt w a s) (he : Ext w w') : StyAt w' a s := ⟨h.M.ext he, h.P.ext he, h.K.ext he, h.lM, h.lP, h.lK, h.bM, h.bP, h.bK⟩
/- the cells of a block of six -/
theorem blk6 {t : TypeId} {w : World} {g : Nat} {a0 a1 a2 a3 a4 a5 : Value} (h : Blk t w g [a0, a1, a2, a3, a4, a5]) :
    w.cell? ⟨g, 0, none⟩ = some a0 ∧ w.cell? ⟨g, 1, none⟩ = some a1 ∧ w.cell? ⟨g, 2, none⟩ = some a2 ∧ w.cell? ⟨g, 3, none⟩ = some a3 ∧ w.cell? ⟨g, 4, none⟩ = some a4 ∧ w.cell? ⟨g, 5, none⟩ = some a5 :=
  ⟨h.cell 0, h.cell 1, h.cell 2, h.cell 3, h.cell 4, h.cell 5⟩
/- is there such a size, such an edge -/
def sizeB (s : Sty) (k : Int) : Bool := decide (0 ≤ k ∧ k < s.ms.length)
def edgeB (s : Sty) (p e : Int) : Bool := decide (0 ≤ p ∧ p < s.ps.length ∧ 0 ≤ e ∧ e < (gPc s.ps p.toNat).es.length)
/- the length of an edge of a graded piece, when there is one -/
def lnN (p : Pc) (m : Int) (e : Nat) : Nat := if gradedR p.es p.cs m ≠ 0 then 0 else lengthN (gE (gradedE p.es p.cs m) e).2
def lensA (s : Sty) (z k : Int) : Nat := lnN (gPc s.ps (gSm s.ss k.toNat).pa.toNat) (gI s.ms z.toNat) (gSm s.ss k.toNat).ea.toNat
def lensB (s : Sty) (z k : Int) : Nat := lnN (gPc s.ps (gSm s.ss k.toNat).pb.toNat) (gI s.ms z.toNat) (gSm s.ss k.toNat).eb.toNat
def lensE (s : Sty) (z k : Int) : Int :=
  if ¬ (sizeB s z = true ∧ 0 ≤ k ∧ k < s.ss.length) then 3
  else if ¬ (edgeB s (gSm s.ss k.toNat).pa (gSm s.ss k.toNat).ea = true ∧ edgeB s (gSm s.ss k.toNat).pb (gSm s.ss k.toNat).eb = true) then 3
  else if gradedR (gPc s.ps (gSm s.ss k.toNat).pa.toNat).es (gPc s.ps (gSm s.ss k.toNat).pa.toNat).cs (gI s.ms z.toNat) ≠ 0 then gradedR (gPc s.ps (gSm s.ss k.toNat).pa.toNat).es (gPc s.ps (gSm s.ss k.toNat).pa.toNat).cs (gI s.ms z.toNat)
  else gradedR (gPc s.ps (gSm s.ss k.toNat).pb.toNat).es (gPc s.ps (gSm s.ss k.toNat).pb.toNat).cs (gI s.ms z.toNat)
def lensV (s : Sty) (z k : Int) : Int × Int × Int := if lensE s z k ≠ 0 then (0, 0, lensE s z k) else (lensA s z k, lensB s z k, 0)
end Go.Proofs.YtkigmpholnfkbaaGreat
