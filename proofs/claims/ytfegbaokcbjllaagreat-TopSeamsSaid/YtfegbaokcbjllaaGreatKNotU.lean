/- plain: notches without a counterpart. No program in sight. -/
import Derived.Test.YtfegbaokcbjllaaGreatKNotP
namespace Go.Proofs.YtfegbaokcbjllaaGreat
open Go.RowKit
/- is a notch on the edge near a place -/
def nearF (ns : List Spot) (pl : List Int) (edge place : Int) (i : Nat) : Bool := decide ((gS ns i).1 = edge ∧ gapN (gI pl i) place ≤ 1000)
def hasB (ns : List Spot) (pl : List Int) (edge place : Int) : Bool := (List.range ns.length).any (nearF ns pl edge place)
/- a side of a seam -/
structure Sd where
 ns : List Spot
 pl : List Int
 edge : Int
 len : Int
def alnB (a b : Sd) (rev : Bool) (i : Nat) : Bool := decide ((gS a.ns i).1 = a.edge) && (decide (partE a.len b.len (gI a.pl i) ≠ 0) || !hasB b.ns b.pl b.edge (partV a.len b.len rev (gI a.pl i)))
def alnTo (a b : Sd) (rev : Bool) (k : Nat) : List Nat := (List.range k).filter (alnB a b rev)
def alnL (a b : Sd) (rev : Bool) : List Nat := alnTo a b rev a.ns.length
theorem alnTo_yes {a b : Sd} {rev : Bool} {k : Nat} (h : alnB a b rev k = true) : alnTo a b rev (k + 1) = alnTo a b rev k ++ [k] := by
 unfold alnTo; rw [List.range_succ, List.filter_append]; simp [h]
theorem alnTo_no {a b : Sd} {rev : Bool} {k : Nat} (h : alnB a b rev k = false) : alnTo a b rev (k + 1) = alnTo a b rev k := by
 unfold alnTo; rw [List.range_succ, List.filter_append]; simp [h]
theorem alnTo_len (a b : Sd) (rev : Bool) (k : Nat) : (alnTo a b rev k).length ≤ k := by
 unfold alnTo; exact Nat.le_trans (List.length_filter_le _ _) (by simp)
/- issues: kind, seam, notch -/
abbrev Iss := Int × Int × Int
def sdA (s : Sty) (z : Int) (k : Nat) : Sd := ⟨(gPc s.ps (gSm s.ss k).pa.toNat).ns, plL (gPc s.ps (gSm s.ss k).pa.toNat) (gI s.ms z.toNat), (gSm s.ss k).ea, (lensV s z k).1⟩
def sdB (s : Sty) (z : Int) (k : Nat) : Sd := ⟨(gPc s.ps (gSm s.ss k).pb.toNat).ns, plL (gPc s.ps (gSm s.ss k).pb.toNat) (gI s.ms z.toNat), (gSm s.ss k).eb, (lensV s z k).2.1⟩
def issK (kind : Int) (k : Nat) (l : List Nat) : List Iss := l.map fun (i : Nat) => (kind, (k : Int), (i : Int))
def seamIss (s : Sty) (z : Int) (k : Nat) : List Iss := issK 1 k (alnL (sdA s z k) (sdB s z k) (gSm s.ss k).rev) ++ issK 2 k (alnL (sdB s z k) (sdA s z k) (gSm s.ss k).rev)
def unmTo (s : Sty) (z : Int) (k : Nat) : List Iss := (List.range k).flatMap (seamIss s z)
def unmL (s : Sty) (z : Int) : List Iss := unmTo s z s.ss.length
def seamE (s : Sty) (z : Int) (k : Nat) : Int :=
 if (lensV s z k).2.2 ≠ 0 then (lensV s z k).2.2
 else if plE (gPc s.ps (gSm s.ss k).pa.toNat) (gI s.ms z.toNat) ≠ 0 then plE (gPc s.ps (gSm s.ss k).pa.toNat) (gI s.ms z.toNat)
 else plE (gPc s.ps (gSm s.ss k).pb.toNat) (gI s.ms z.toNat)
def unmE (s : Sty) (z : Int) : Int := if sizeB s z = false then 3 else firstE (seamE s z) s.ss.length
theorem unmTo_succ (s : Sty) (z : Int) (k : Nat) : unmTo s z (k + 1) = unmTo s z k ++ seamIss s z k := by
 unfold unmTo; rw [List.range_succ, List.flatMap_append]; simp
theorem gapN_self (x : Int) : gapN x x = 0 := by unfold gapN; split <;> omega
/- a line that is valid has a length -/
theorem length_pos {l : List Spot} (h : lcheck l = 0) : 1 ≤ lengthN l := by
 obtain ⟨h2, h40, hin, hne⟩ := (lcheck_iff l).1 h
 unfold lengthN
 rw [if_neg (fun h' => h' h)]
 have h1 := seg_pos (hin 0 (by omega)) (hin 1 (by omega)) (hne 0 (by omega))
 have h3 := lenTo_mono (l := l) (show 1 ≤ l.length - 1 by omega)
 have h4 : lenTo l 1 = seg (gS l 0) (gS l 1) := by simp [lenTo]
 omega
/- an edge sewn to itself -/
theorem self_none {p : Pc} {m : Int} {edge : Int} (h : PlOk p m) (h0 : 0 ≤ edge) (h1 : edge < p.es.length) :
  alnL ⟨p.ns, plL p m, edge, (grdN p m edge.toNat : Int)⟩ ⟨p.ns, plL p m, edge, (grdN p m edge.toNat : Int)⟩ false = [] := by
 unfold alnL alnTo
 rw [List.filter_eq_nil_iff]
 intro i hi
 have hi' : i < p.ns.length := List.mem_range.1 hi
 unfold alnB
 simp only
 by_cases he : (gS p.ns i).1 = edge
 ·have hn := h.i i hi'
  have hb := plV_bd hn
  rw [he] at hb
  have hL : 1 ≤ grdN p m edge.toNat := length_pos (graded_lines h.g (by omega))
  have hLb := lengthN_bd (gE (gradedE p.es p.cs m) edge.toNat).2
  rw [plL_get hi']
  obtain ⟨x, hx⟩ := Int.eq_ofNat_of_zero_le hb.1
  have hxle : x ≤ grdN p m edge.toNat := by omega
  have hok : prtB (grdN p m edge.toNat : Int) (grdN p m edge.toNat : Int) (plV p m i) = true := prtB_iff.2 (by unfold grdN at *; omega)
  have hz := partE_zero.2 hok
  have hv : partV (grdN p m edge.toNat : Int) (grdN p m edge.toNat : Int) false (plV p m i) = plV p m i := by
   unfold partV partN
   rw [hok, hx]
   simp only [if_true, Bool.false_eq_true, if_false, Int.toNat_natCast]
   rw [part_self hL]
  rw [hz, hv]
  have hh : hasB p.ns (plL p m) edge (plV p m i) = true := by
   unfold hasB
   rw [List.any_eq_true]
   refine ⟨i, List.mem_range.2 hi', ?_⟩
   unfold nearF
   rw [plL_get hi', gapN_self]
   exact decide_eq_true ⟨he, by omega⟩
  rw [hh]; simp
 ·simp [he]
end Go.Proofs.YtfegbaokcbjllaaGreat
