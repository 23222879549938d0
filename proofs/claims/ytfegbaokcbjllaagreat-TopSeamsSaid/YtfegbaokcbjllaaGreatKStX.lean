/- words: a style as a whole (names, sizes, uses too), and the first error of it. No program in sight. -/
import Derived.Test.YtfegbaokcbjllaaGreatKNotP
namespace Go.Proofs.YtfegbaokcbjllaaGreat
open Go.RowKit
structure PcX where
 nm : ByteArray
 gr : Int
 p : Pc
instance : Inhabited PcX := ⟨⟨⟨#[]⟩, 0, ⟨[], [], [], []⟩⟩⟩
def gPx (l : List PcX) (k : Nat) : PcX := l.getD k ⟨⟨#[]⟩, 0, ⟨[], [], [], []⟩⟩
theorem gPx_eq {l : List PcX} {k : Nat} (h : k < l.length) : gPx l k = l[k] := by simp [gPx, h]
def PiecesX (w : World) (A : Option Addr) (l : List PcX) : Prop :=
 ∀ k, k < l.length → ∃ b off a, A = some ⟨b, off, none⟩ ∧ PcAt w a (gPx l k).p ∧ PcCells w b (off + k * 7) a ∧ a.nm = (gPx l k).nm ∧ a.gr = (gPx l k).gr
theorem PiecesX.ext {w w' : World} {A : Option Addr} {l : List PcX} (h : PiecesX w A l) (he : Ext w w') : PiecesX w' A l := fun k hk => by
 obtain ⟨b, off, a, e, hp, hc, h1, h2⟩ := h k hk
 exact ⟨b, off, a, e, hp.ext he, hc.ext he, h1, h2⟩
theorem gPc_x {l : List PcX} {k : Nat} (h : k < l.length) : gPc (l.map PcX.p) k = (gPx l k).p := by
 rw [gPc_eq (by simpa using h), gPx_eq h]; simp
theorem PiecesX.pcs {w : World} {A : Option Addr} {l : List PcX} (h : PiecesX w A l) : PiecesAt w A (l.map PcX.p) := fun k hk => by
 have hk' : k < l.length := by simpa using hk
 obtain ⟨b, off, a, e, hp, hc, _⟩ := h k hk'
 exact ⟨b, off, a, e, by rw [gPc_x hk']; exact hp, hc⟩
theorem PiecesX.take {w : World} {A : Option Addr} {l : List PcX} (h : PiecesX w A l) (n : Nat) : PiecesX w A (l.take n) := fun k hk => by
 have hk' : k < l.length := by rw [List.length_take] at hk; omega
 have e : gPx (l.take n) k = gPx l k := by rw [gPx_eq hk, gPx_eq hk']; simp
 rw [e]; exact h k hk'
/- strings -/
def gB (l : List ByteArray) (k : Nat) : ByteArray := l.getD k ⟨#[]⟩
theorem gB_eq {l : List ByteArray} {k : Nat} (h : k < l.length) : gB l k = l[k] := by simp [gB, h]
def StrsAt (w : World) (A : Option Addr) (l : List ByteArray) : Prop := ∀ k, k < l.length → ∃ b off, A = some ⟨b, off, none⟩ ∧ w.cell? ⟨b, off + k, none⟩ = some (.string (gB l k))
theorem StrsAt.ext {w w' : World} {A : Option Addr} {l : List ByteArray} (h : StrsAt w A l) (he : Ext w w') : StrsAt w' A l := fun k hk => by
 obtain ⟨b, off, e, h0⟩ := h k hk
 exact ⟨b, off, e, he.cell h0⟩
/- uses -/
structure UsX where
 pc : Int
 ct : Int
 pr : Bool
instance : Inhabited UsX := ⟨⟨0, 0, false⟩⟩
def gU (l : List UsX) (k : Nat) : UsX := l.getD k ⟨0, 0, false⟩
def UsesAt (w : World) (A : Option Addr) (l : List UsX) : Prop := ∀ k, k < l.length → ∃ b off, A = some ⟨b, off, none⟩ ∧ w.cell? ⟨b, off + k * 3, none⟩ = some (.int .i64 (gU l k).pc) ∧ w.cell? ⟨b, off + k * 3 + 1, none⟩ = some (.int .i64 (gU l k).ct) ∧ w.cell? ⟨b, off + k * 3 + 2, none⟩ = some (.bool (gU l k).pr)
theorem UsesAt.ext {w w' : World} {A : Option Addr} {l : List UsX} (h : UsesAt w A l) (he : Ext w w') : UsesAt w' A l := fun k hk => by
 obtain ⟨b, off, e, h0, h1, h2⟩ := h k hk
 exact ⟨b, off, e, he.cell h0, he.cell h1, he.cell h2⟩
structure StyX where
 nm : ByteArray
 sz : List ByteArray
 ms : List Int
 ps : List PcX
 us : List UsX
 ss : List Sm
 no : Nat
def StyX.s (x : StyX) : Sty := ⟨x.ms, x.ps.map PcX.p, x.ss⟩
structure StyXAt (w : World) (a : StyA) (x : StyX) : Prop where
 nm : a.nm = x.nm
 S : StrsAt w a.AS x.sz
 M : IntsAt w a.AM x.ms
 P : PiecesX w a.AP x.ps
 U : UsesAt w a.AU x.us
 K : SeamsAt w a.AK x.ss
 lS : x.sz.length = a.nS
 lM : x.ms.length = a.nM
 lP : x.ps.length = a.nP
 lU : x.us.length = a.nU
 lK : x.ss.length = a.nK
 lO : a.nO = x.no
 bS : a.nS ≤ 9223372036854775807
 bM : a.nM ≤ 9223372036854775807
 bP : a.nP ≤ 9223372036854775807
 bU : a.nU ≤ 9223372036854775807
 bK : a.nK ≤ 9223372036854775807
 bO : a.nO ≤ 9223372036854775807
 cP : a.nP ≤ a.cP
 cS : a.nS ≤ a.cS
theorem StyXAt.ext {w w' : World} {a : StyA} {x : StyX} (h : StyXAt w a x) (he : Ext w w') : StyXAt w' a x :=
 ⟨h.nm, h.S.ext he, h.M.ext he, h.P.ext he, h.U.ext he, h.K.ext he, h.lS, h.lM, h.lP, h.lU, h.lK, h.lO, h.bS, h.bM, h.bP, h.bU, h.bK, h.bO, h.cP, h.cS⟩
theorem StyXAt.sty {w : World} {a : StyA} {x : StyX} (h : StyXAt w a x) : StyAt w a x.s :=
 ⟨h.M, h.P.pcs, h.K, h.lM, by simp only [StyX.s, List.length_map]; exact h.lP, h.lK, h.bM, h.bP, h.bK⟩
/- a size -/
def szC (c : UInt8) : Bool := (decide (65 ≤ c.toNat) && decide (c.toNat ≤ 90)) || (decide (48 ≤ c.toNat) && decide (c.toNat ≤ 57))
def szB (s : ByteArray) : Bool := s.data.toList.all szC && decide (1 ≤ s.size ∧ s.size ≤ 8)
/- two sizes alike among the first k -/
def szDupF (l : List ByteArray) (i : Nat) : Bool := decide ((gB l i).data.toList ∈ (l.take i).map fun x => x.data.toList)
def szDup (l : List ByteArray) (k : Nat) : Bool := (List.range k).any (szDupF l)
def wholeE (x : StyX) : Int :=
 if nameB x.nm = false ∨ x.sz.length = 0 then 1
 else if allB (fun i => szB (gB x.sz i)) x.sz.length = false then 1
 else if x.ms.length ≠ x.sz.length ∨ ¬ (0 : Int) ∈ x.ms then 1
 else if szDup x.sz x.sz.length = true then 7
 else if 12 < x.sz.length ∨ 12 < x.ps.length ∨ 12 < x.us.length then 5
 else if 24 < x.ss.length ∨ 16 < x.no then 5
 else if allB (fun i => decide (-100 ≤ gI x.ms i ∧ gI x.ms i ≤ 100)) x.ms.length = false then 3 else 0
def pieceE (l : List PcX) (k : Nat) : Int :=
 if nameB (gPx l k).nm = false then 1
 else if (gPx l k).gr ≠ 1 ∧ (gPx l k).gr ≠ 2 ∧ (gPx l k).gr ≠ 4 then 1
 else if (List.range k).any (fun j => decide ((gPx l j).nm.data.toList = (gPx l k).nm.data.toList)) = true then 7
 else if gradedR (gPx l k).p.es (gPx l k).p.cs 0 ≠ 0 then gradedR (gPx l k).p.es (gPx l k).p.cs 0
 else if plE (gPx l k).p 0 ≠ 0 then plE (gPx l k).p 0
 else if (gPx l k).p.ws.length ≠ (gPx l k).p.es.length then 1
 else if allB (fun i => decide (0 ≤ gI (gPx l k).p.ws i ∧ gI (gPx l k).p.ws i ≤ 500)) (gPx l k).p.ws.length = false then 3 else 0
def useE (x : StyX) (k : Nat) : Int := if (gU x.us k).pc < 0 ∨ (x.ps.length : Int) ≤ (gU x.us k).pc ∨ (gU x.us k).ct < 1 ∨ 4 < (gU x.us k).ct then 3 else 0
def joinE (x : StyX) (k : Nat) : Int := if ¬ (edgeB x.s (gSm x.ss k).pa (gSm x.ss k).ea = true ∧ edgeB x.s (gSm x.ss k).pb (gSm x.ss k).eb = true) then 3 else if (gSm x.ss k).ease < 0 then 1 else 0
def styE (x : StyX) : Int :=
 if wholeE x ≠ 0 then wholeE x
 else if firstE (pieceE x.ps) x.ps.length ≠ 0 then firstE (pieceE x.ps) x.ps.length
 else if firstE (useE x) x.us.length ≠ 0 then firstE (useE x) x.us.length
 else firstE (joinE x) x.ss.length
end Go.Proofs.YtfegbaokcbjllaaGreat
