/- plain: targets of a style whose pieces are turned without a flip, or moved. No program in sight. -/
import Derived.Test.YtkigmpholnfkbaaGreatKStX
import Derived.Test.YtkigmpholnfkbaaGreatKTnV
/- words: points of measure; plain: their errors, targets, judgements. No program in sight. -/
namespace Go.Proofs.YtkigmpholnfkbaaGreat
open Go.RowKit
structure PomX where
  nm : ByteArray
  ps : List Int
  es : List Int
  pl : Int
  mi : Int
instance : Inhabited PomX := ⟨⟨⟨#[]⟩, [], [], 0, 0⟩⟩
def gPm (l : List PomX) (k : Nat) : PomX := l.getD k ⟨⟨#[]⟩, [], [], 0, 0⟩
theorem gPm_eq {l : List PomX} {k : Nat} (h : k < l.length) : gPm l k = l[k] := by simp [gPm, h]
/- where a point of measure lies -/
structure PomA where
  nm : ByteArray
  AP : Option Addr
  nP : Nat
  cP : Nat
  AE : Option Addr
  nE : Nat
  cE : Nat
  pl : Int
  mi : Int
abbrev PomA.val (a : PomA) : Value := .agg #[.string a.nm, .slice a.AP a.nP a.cP, .slice a.AE a.nE a.cE, .int .i64 a.pl, .int .i64 a.mi]
abbrev PomA.cells (a : PomA) : List Value := [.string a.nm, .slice a.AP a.nP a.cP, .slice a.AE a.nE a.cE, .int .i64 a.pl, .int .i64 a.mi]
structure PomAt (w : World) (a : PomA) (p : PomX) : Prop where
  nm : a.nm = p.nm
  P : IntsAt w a.AP p.ps
  lP : p.ps.length = a.nP
  E : IntsAt w a.AE p.es
  lE : p.es.length = a.nE
  pl : a.pl = p.pl
  mi : a.mi = p.mi
  bP : a.nP ≤ 9223372036854775807
  bE : a.nE ≤ 9223372036854775807
theorem PomAt.ext {w w' : World} {a : PomA} {p : PomX} (h : PomAt w a p) (he : Ext w w') : PomAt w' a p := ⟨h.nm, h.P.ext he, h.lP, h.E.ext he, h.lE, h.pl, h.mi, h.bP, h.bE⟩
structure PomCells (w : World) (b off : Nat) (a : PomA) : Prop where
  c0 : w.cell? ⟨b, off, none⟩ = some (.string a.nm)
  c1 : w.cell? ⟨b, off + 1, none⟩ = some (.slice a.AP a.nP a.cP)
  c2 : w.cell? ⟨b, off + 2, none⟩ = some (.slice a.AE a.nE a.cE)
  c3 : w.cell? ⟨b, off + 3, none⟩ = some (.int .i64 a.pl)
  c4 : w.cell? ⟨b, off + 4, none⟩ = some (.int .i64 a.mi)
theorem PomCells.ext {w w' : World} {b off : Nat} {a : PomA} (h : PomCells w b off a) (he : Ext w w') : PomCells w' b off a := ⟨he.cell h.c0, he.cell h.c1, he.cell h.c2, he.cell h.c3, he.cell h.c4⟩
def PomsAt (w : World) (A : Option Addr) (l : List PomX) : Prop := ∀ k, k < l.length → ∃ b off a, A = some ⟨b, off, none⟩ ∧ PomAt w a (gPm l k) ∧ PomCells w b (off + k * 5) a
theorem PomsAt.ext {w w' : World} {A : Option Addr} {l : List PomX} (h : PomsAt w A l) (he : Ext w w') : PomsAt w' A l := fun k hk => by
  obtain ⟨b, off, a, e, hp, hc⟩ := h k hk
  exact ⟨b, off, a, e, hp.ext he, hc.ext he⟩
/- errors of a list of points of measure -/
def pomRef (x : StyX) (p : PomX) (k : Nat) : Bool := edgeB x.s (gI p.ps k) (gI p.es k)
def pomE (x : StyX) (l : List PomX) (i : Nat) : Int :=
  if nameB (gPm l i).nm = false ∨ (gPm l i).es.length ≠ (gPm l i).ps.length ∨ (gPm l i).ps.length = 0 ∨ 16 < (gPm l i).ps.length then 1
  else if (List.range i).any (fun j => decide ((gPm l j).nm.data.toList = (gPm l i).nm.data.toList)) = true then 7
  else if allB (pomRef x (gPm l i)) (gPm l i).ps.length = false then 3
  else if (gPm l i).pl < 0 ∨ 1073741824 < (gPm l i).pl ∨ (gPm l i).mi < 0 ∨ 1073741824 < (gPm l i).mi then 3 else 0
def spcE (x : StyX) (l : List PomX) : Int := if styE x ≠ 0 then styE x else if 16 < l.length then 5 else firstE (pomE x l) l.length
/- targets -/
def tgR (x : StyX) (p : PomX) (m : Int) (k : Nat) : Int := gradedR (gPx x.ps (gI p.ps k).toNat).p.es (gPx x.ps (gI p.ps k).toNat).p.cs m
def tgN (x : StyX) (p : PomX) (m : Int) (k : Nat) : Nat := grdN (gPx x.ps (gI p.ps k).toNat).p m (gI p.es k).toNat
def tgTo (x : StyX) (p : PomX) (m : Int) : Nat → Nat
  | 0 => 0
  | k + 1 => tgTo x p m k + tgN x p m k
def tgE (x : StyX) (p : PomX) (m : Int) : Int := firstE (tgR x p m) p.ps.length
def tgV (x : StyX) (p : PomX) (m : Int) : Int := if tgE x p m ≠ 0 then 0 else (tgTo x p m p.ps.length : Int)
def targE (x : StyX) (p : PomX) (z : Int) : Int := if spcE x [p] ≠ 0 then spcE x [p] else if z < 0 ∨ (x.sz.length : Int) ≤ z then 3 else tgE x p (gI x.ms z.toNat)
def targV (x : StyX) (p : PomX) (z : Int) : Int := if targE x p z ≠ 0 then 0 else (tgTo x p (gI x.ms z.toNat) p.ps.length : Int)
/- judgements -/
def judV (p : PomX) (t v : Int) : Int := if v - (t - p.mi) < 0 then v - (t - p.mi) else if 0 < v - (t + p.pl) then v - (t + p.pl) else 0
def jdE (x : StyX) (l : List PomX) (m : Int) (vs : List Int) (i : Nat) : Int := if gI vs i < 0 ∨ 35184372088832 < gI vs i then 3 else tgE x (gPm l i) m
def judE (x : StyX) (l : List PomX) (z : Int) (vs : List Int) : Int :=
  if spcE x l ≠ 0 then spcE x l else if vs.length ≠ l.length then 1 else if z < 0 ∨ (x.sz.length : Int) ≤ z then 3 else firstE (jdE x l (gI x.ms z.toNat) vs) l.length
def judL (x : StyX) (l : List PomX) (z : Int) (vs : List Int) : List Int := (List.range l.length).map fun i => judV (gPm l i) (tgTo x (gPm l i) (gI x.ms z.toNat) (gPm l i).ps.length : Int) (gI vs i)
end Go.Proofs.YtkigmpholnfkbaaGreat
/- plain: notches without a counterpart. No program in sight. -/
namespace Go.Proofs.YtkigmpholnfkbaaGreat
open Go.RowKit
/- is a notch on the edge near a place -/
def nearF (ns : List Spot) (pl : List Int) (edge place : Int) (i : Nat) : Bool := decide ((gS ns i).1 = edge ∧ gapN (gI pl i) place ≤ 1000)
def hasB (ns : List Spot) (pl : List Int) (edge place : Int) : Bool := (List.range ns.length).any (nearF ns pl edge place)
/- a side of a seam -/
structure Sd where
  ns : List Spot
  pl : List Int
  edge : Int
  len : Int
def alnB (a b : Sd) (rev : Bool) (i : Nat) : Bool := decide ((gS a.ns i).1 = a.edge) && (decide (partE a.len b.len (gI a.pl i) ≠ 0) || !hasB b.ns b.pl b.edge (partV a.len b.len rev (gI a.pl i)))
def alnTo (a b : Sd) (rev : Bool) (k : Nat) : List Nat := (List.range k).filter (alnB a b rev)
def alnL (a b : Sd) (rev : Bool) : List Nat := alnTo a b rev a.ns.length
theorem alnTo_yes {a b : Sd} {rev : Bool} {k : Nat} (h : alnB a b rev k = true) : alnTo a b rev (k + 1) = alnTo a b rev k ++ [k] := by
  unfold alnTo; rw [List.range_succ, List.filter_append]; simp [h]
theorem alnTo_no {a b : Sd} {rev : Bool} {k : Nat} (h : alnB a b rev k = false) : alnTo a b rev (k + 1) = alnTo a b rev k := by
  unfold alnTo; rw [List.range_succ, List.filter_append]; simp [h]
theorem alnTo_len (a b : Sd) (rev : Bool) (k : Nat) : (alnTo a b rev k).length ≤ k := by
  unfold alnTo; exact Nat.le_trans (List.length_filter_le _ _) (by simp)
/- issues: kind, seam, notch -/
abbrev Iss := Int × Int × Int
def sdA (s : Sty) (z : Int) (k : Nat) : Sd := ⟨(gPc s.ps (gSm s.ss k).pa.toNat).ns, plL (gPc s.ps (gSm s.ss k).pa.toNat) (gI s.ms z.toNat), (gSm s.ss k).ea, (lensV s z k).1⟩
def sdB (s : Sty) (z : Int) (k : Nat) : Sd := ⟨(gPc s.ps (gSm s.ss k).pb.toNat).ns, plL (gPc s.ps (gSm s.ss k).pb.toNat) (gI s.ms z.toNat), (gSm s.ss k).eb, (lensV s z k).2.1⟩
def issK (kind : Int) (k : Nat) (l : List Nat) : List Iss := l.map fun (i : Nat) => (kind, (k : Int), (i : Int))
def seamIss (s : Sty) (z : Int) (k : Nat) : List Iss := issK 1 k (alnL (sdA s z k) (sdB s z k) (gSm s.ss k).rev) ++ issK 2 k (alnL (sdB s z k) (sdA s z k) (gSm s.ss k).rev)
def unmTo (s : Sty) (z : Int) (k : Nat) : List Iss := (List.range k).flatMap (seamIss s z)
def unmL (s : Sty) (z : Int) : List Iss := unmTo s z s.ss.length
def seamE (s : Sty) (z : Int) (k : Nat) : Int :=
  if (lensV s z k).2.2 ≠ 0 then (lensV s z k).2.2
  else if plE (gPc s.ps (gSm s.ss k).pa.toNat) (gI s.ms z.toNat) ≠ 0 then plE (gPc s.ps (gSm s.ss k).pa.toNat) (gI s.ms z.toNat)
  else plE (gPc s.ps (gSm s.ss k).pb.toNat) (gI s.ms z.toNat)
def unmE (s : Sty) (z : Int) : Int := if sizeB s z = false then 3 else firstE (seamE s z) s.ss.length
theorem unmTo_succ (s : Sty) (z : Int) (k : Nat) : unmTo s z (k + 1) = unmTo s z k ++ seamIss s z k := by
  unfold unmTo; rw [List.range_succ, List.flatMap_append]; simp
theorem gapN_self (x : Int) : gapN x x = 0 := by unfold gapN; split <;> omega
/- a line that is valid has a length -/
theorem length_pos {l : List Spot} (h : lcheck l = 0) : 1 ≤ lengthN l := by
  obtain ⟨h2, h40, hin, hne⟩ := (lcheck_iff l).1 h
  unfold lengthN
  rw [if_neg (fun h' => h' h)]
  have h1 := seg_pos (hin 0 (by omega)) (hin 1 (by omega)) (hne 0 (by omega))
  have h3 := lenTo_mono (l := l) (show 1 ≤ l.length - 1 by omega)
  have h4 : lenTo l 1 = seg (gS l 0) (gS l 1) := by simp [lenTo]
  omega
/- an edge sewn to itself -/
theorem self_none {p : Pc} {m : Int} {edge : Int} (h : PlOk p m) (h0 : 0 ≤ edge) (h1 : edge < p.es.length) :
    alnL ⟨p.ns, plL p m, edge, (grdN p m edge.toNat : Int)⟩ ⟨p.ns, plL p m, edge, (grdN p m edge.toNat : Int)⟩ false = [] := by
  unfold alnL alnTo
  rw [List.filter_eq_nil_iff]
  intro i hi
  have hi' : i < p.ns.length := List.mem_range.1 hi
  unfold alnB
  simp only
  by_cases he : (gS p.ns i).1 = edge
  · have hn := h.i i hi'
    have hb := plV_bd hn
    rw [he] at hb
    have hL : 1 ≤ grdN p m edge.toNat := length_pos (graded_lines h.g (by omega))
    have hLb := lengthN_bd (gE (gradedE p.es p.cs m) edge.toNat).2
    rw [plL_get hi']
    obtain ⟨x, hx⟩ := Int.eq_ofNat_of_zero_le hb.1
    have hxle : x ≤ grdN p m edge.toNat := by omega
    have hok : prtB (grdN p m edge.toNat : Int) (grdN p m edge.toNat : Int) (plV p m i) = true := prtB_iff.2 (by unfold grdN at *; omega)
    have hz := partE_zero.2 hok
    have hv : partV (grdN p m edge.toNat : Int) (grdN p m edge.toNat : Int) false (plV p m i) = plV p m i := by
      unfold partV partN
      rw [hok, hx]
      simp only [if_true, Bool.false_eq_true, if_false, Int.toNat_natCast]
      rw [part_self hL]
    rw [hz, hv]
    have hh : hasB p.ns (plL p m) edge (plV p m i) = true := by
      unfold hasB
      rw [List.any_eq_true]
      refine ⟨i, List.mem_range.2 hi', ?_⟩
      unfold nearF
      rw [plL_get hi', gapN_self]
      exact decide_eq_true ⟨he, by omega⟩
    rw [hh]; simp
  · simp [he]
end Go.Proofs.YtkigmpholnfkbaaGreat
/- plain: judgements and targets: what the laws of chapter 52 ask. No program in sight. -/
namespace Go.Proofs.YtkigmpholnfkbaaGreat
open Go.RowKit
theorem jud_zero {p : PomX} {t v : Int} (h0 : 0 ≤ p.pl) (h1 : 0 ≤ p.mi) : judV p t v = 0 ↔ v - t ≤ p.pl ∧ -p.mi ≤ v - t := by
  unfold judV
  split
  · omega
  · split <;> omega
theorem jud_pos {p : PomX} {t v : Int} (h : 0 < judV p t v) : v - t - judV p t v = p.pl := by
  unfold judV at h ⊢
  by_cases h1 : v - (t - p.mi) < 0
  · rw [if_pos h1] at h; omega
  · rw [if_neg h1] at h ⊢
    by_cases h2 : 0 < v - (t + p.pl)
    · rw [if_pos h2]; omega
    · rw [if_neg h2] at h; omega
theorem jud_neg {p : PomX} {t v : Int} (h : judV p t v < 0) : v - t - judV p t v = -p.mi := by
  unfold judV at h ⊢
  by_cases h1 : v - (t - p.mi) < 0
  · rw [if_pos h1]; omega
  · rw [if_neg h1] at h
    by_cases h2 : 0 < v - (t + p.pl)
    · rw [if_pos h2] at h; omega
    · rw [if_neg h2] at h; omega
theorem jud_wide {p q : PomX} {t v : Int} (h0 : 0 ≤ p.pl) (h1 : 0 ≤ p.mi) (h2 : p.pl ≤ q.pl) (h3 : p.mi ≤ q.mi) : max (judV q t v) (-judV q t v) ≤ max (judV p t v) (-judV p t v) := by
  unfold judV
  split <;> split <;> (try split) <;> (try split) <;> omega
theorem jud_more {p : PomX} {t v v' : Int} (h0 : 0 ≤ p.pl) (h1 : 0 ≤ p.mi) (h : v ≤ v') : judV p t v ≤ judV p t v' := by
  unfold judV
  split <;> split <;> (try split) <;> (try split) <;> omega
/- a point of measure that is in order -/
structure PomOk (x : StyX) (p : PomX) : Prop where
  nm : nameB p.nm = true
  le : p.es.length = p.ps.length
  n0 : p.ps.length ≠ 0
  n1 : p.ps.length ≤ 16
  rf : ∀ k, k < p.ps.length → edgeB x.s (gI p.ps k) (gI p.es k) = true
  p0 : 0 ≤ p.pl
  p1 : p.pl ≤ 1073741824
  m0 : 0 ≤ p.mi
  m1 : p.mi ≤ 1073741824
theorem pomE_zero {x : StyX} {l : List PomX} {i : Nat} : pomE x l i = 0 ↔ PomOk x (gPm l i) ∧ ∀ j, j < i → (gPm l j).nm.data.toList ≠ (gPm l i).nm.data.toList := by
  unfold pomE
  constructor
  · intro h
    split at h
    · cases h
    rename_i h1
    split at h
    · cases h
    rename_i h2
    split at h
    · cases h
    rename_i h3
    split at h
    · cases h
    rename_i h4
    have h3' : allB (pomRef x (gPm l i)) (gPm l i).ps.length = true := by simpa using h3
    refine ⟨⟨by simpa using fun h => h1 (Or.inl h), by omega, by omega, by omega, fun k hk => (allB_iff _ _).1 h3' k hk, by omega, by omega, by omega, by omega⟩, fun j hj he => h2 ?_⟩
    exact List.any_eq_true.2 ⟨j, List.mem_range.2 hj, decide_eq_true he⟩
  · rintro ⟨h, h'⟩
    rw [if_neg, if_neg, if_neg, if_neg]
    · have := h.p0; have := h.p1; have := h.m0; have := h.m1; omega
    · rw [(allB_iff (pomRef x (gPm l i)) _).2 h.rf]; simp
    · intro hc
      obtain ⟨j, hj, he⟩ := List.any_eq_true.1 hc
      exact h' j (List.mem_range.1 hj) (of_decide_eq_true he)
    · have e0 := h.nm; have e1 := h.le; have e2 := h.n0; have e3 := h.n1
      intro hc
      rcases hc with hc | hc | hc | hc
      · rw [e0] at hc; cases hc
      all_goals omega
theorem spcE_zero {x : StyX} {l : List PomX} : spcE x l = 0 ↔ styE x = 0 ∧ l.length ≤ 16 ∧ ∀ i, i < l.length → PomOk x (gPm l i) ∧ ∀ j, j < i → (gPm l j).nm.data.toList ≠ (gPm l i).nm.data.toList := by
  unfold spcE
  constructor
  · intro h
    split at h
    · rename_i h1; exact absurd h h1
    rename_i h1
    split at h
    · cases h
    rename_i h2
    exact ⟨Classical.not_not.1 h1, by omega, fun i hi => pomE_zero.1 ((firstE_zero _ _).1 h i hi)⟩
  · rintro ⟨h1, h2, h3⟩
    rw [if_neg (fun h => h h1), if_neg (by omega)]
    exact (firstE_zero _ _).2 fun i hi => pomE_zero.2 (h3 i hi)
theorem spcE_one {x : StyX} {p : PomX} : spcE x [p] = 0 ↔ styE x = 0 ∧ PomOk x p := by
  rw [spcE_zero]
  constructor
  · rintro ⟨h1, _, h3⟩; exact ⟨h1, (h3 0 (by simp)).1⟩
  · rintro ⟨h1, h2⟩
    refine ⟨h1, by simp, fun i hi => ?_⟩
    obtain rfl : i = 0 := by simpa using hi
    exact ⟨h2, fun j hj => absurd hj (Nat.not_lt_zero _)⟩
theorem targE_zero {x : StyX} {p : PomX} {z : Int} : targE x p z = 0 ↔ spcE x [p] = 0 ∧ (0 ≤ z ∧ z < x.sz.length) ∧ ∀ k, k < p.ps.length → tgR x p (gI x.ms z.toNat) k = 0 := by
  unfold targE
  constructor
  · intro h
    split at h
    · rename_i h1; exact absurd h h1
    rename_i h1
    split at h
    · cases h
    rename_i h2
    exact ⟨Classical.not_not.1 h1, by omega, fun k hk => (firstE_zero _ _).1 h k hk⟩
  · rintro ⟨h1, h2, h3⟩
    rw [if_neg (fun h => h h1), if_neg (by omega)]
    exact (firstE_zero _ _).2 h3
/- sums -/
theorem tgTo_sum (x : StyX) (p : PomX) (m : Int) : ∀ k, tgTo x p m k = sumN (tgN x p m) k
  | 0 => rfl
  | k + 1 => by unfold tgTo sumN; rw [tgTo_sum x p m k]
def oneP (p : PomX) (i : Nat) : PomX := ⟨p.nm, [gI p.ps i], [gI p.es i], p.pl, p.mi⟩
def backP (p : PomX) : PomX := ⟨p.nm, p.ps.reverse, p.es.reverse, p.pl, p.mi⟩
theorem oneP_ok {x : StyX} {p : PomX} (h : PomOk x p) {i : Nat} (hi : i < p.ps.length) : PomOk x (oneP p i) :=
  ⟨h.nm, rfl, by simp [oneP], by simp [oneP], fun k hk => by
    obtain rfl : k = 0 := by simpa [oneP] using hk
    exact h.rf i hi, h.p0, h.p1, h.m0, h.m1⟩
theorem gI_rev {l : List Int} {k : Nat} (h : k < l.length) : gI l.reverse k = gI l (l.length - 1 - k) := by
  rw [gI_eq (by simpa using h), gI_eq (by omega)]; simp [List.getElem_reverse]
theorem backP_ok {x : StyX} {p : PomX} (h : PomOk x p) : PomOk x (backP p) :=
  ⟨h.nm, by simp [backP, h.le], by simpa [backP] using h.n0, by simpa [backP] using h.n1, fun k hk => by
    have hk' : k < p.ps.length := by simpa [backP] using hk
    show edgeB x.s (gI p.ps.reverse k) (gI p.es.reverse k) = true
    rw [gI_rev hk', gI_rev (by rw [h.le]; exact hk'), h.le]
    exact h.rf _ (by omega), h.p0, h.p1, h.m0, h.m1⟩
theorem one_targ {x : StyX} {p : PomX} {z : Int} (h : targE x p z = 0) {i : Nat} (hi : i < p.ps.length) : targE x (oneP p i) z = 0 ∧ targV x (oneP p i) z = (tgN x p (gI x.ms z.toNat) i : Int) := by
  obtain ⟨h1, h2, h3⟩ := targE_zero.1 h
  obtain ⟨s0, s1⟩ := spcE_one.1 h1
  have hz : targE x (oneP p i) z = 0 := targE_zero.2 ⟨spcE_one.2 ⟨s0, oneP_ok s1 hi⟩, h2, fun k hk => by
    obtain rfl : k = 0 := by simpa [oneP] using hk
    exact h3 i hi⟩
  refine ⟨hz, ?_⟩
  unfold targV
  rw [if_neg (fun h => h hz)]
  show ((tgTo x (oneP p i) (gI x.ms z.toNat) (0 + 1) : Nat) : Int) = _
  unfold tgTo tgTo
  simp only [Nat.zero_add]
  rfl
theorem back_targ {x : StyX} {p : PomX} {z : Int} (h : targE x p z = 0) : targE x (backP p) z = 0 ∧ targV x (backP p) z = targV x p z := by
  obtain ⟨h1, h2, h3⟩ := targE_zero.1 h
  obtain ⟨s0, s1⟩ := spcE_one.1 h1
  have hl : (backP p).ps.length = p.ps.length := by simp [backP]
  have hR : ∀ k, k < p.ps.length → tgR x (backP p) (gI x.ms z.toNat) k = tgR x p (gI x.ms z.toNat) (p.ps.length - 1 - k) := fun k hk => by
    unfold tgR
    show gradedR (gPx x.ps (gI p.ps.reverse k).toNat).p.es _ _ = _
    rw [show gI (backP p).ps k = gI p.ps.reverse k from rfl, gI_rev hk]
  have hN : ∀ k, k < p.ps.length → tgN x (backP p) (gI x.ms z.toNat) k = tgN x p (gI x.ms z.toNat) (p.ps.length - 1 - k) := fun k hk => by
    unfold tgN
    rw [show gI (backP p).ps k = gI p.ps.reverse k from rfl, show gI (backP p).es k = gI p.es.reverse k from rfl, gI_rev hk, gI_rev (by rw [s1.le]; exact hk), s1.le]
  have hz : targE x (backP p) z = 0 := targE_zero.2 ⟨spcE_one.2 ⟨s0, backP_ok s1⟩, h2, fun k hk => by
    rw [hl] at hk
    rw [hR k hk]
    exact h3 _ (by omega)⟩
  refine ⟨hz, ?_⟩
  unfold targV
  rw [if_neg (fun h => h hz), if_neg (fun h' => h' h), hl, tgTo_sum, tgTo_sum, ← sumN_rev p.ps.length (tgN x p (gI x.ms z.toNat))]
  rw [sumN_congr (n := p.ps.length) hN _ (Nat.le_refl _)]
/- a line that is valid is at least 1000 long -/
theorem rootN_ge {n : Nat} (h : 1000000 ≤ n) (hn : n < 9223372036854775808) : 1000 ≤ rootN n := by
  have h1 := (rootN_is n (by omega)).2
  rcases Nat.lt_or_ge (rootN n) 1000 with h2 | h2
  · have h3 : (rootN n + 1) * (rootN n + 1) ≤ 1000 * 1000 := Nat.mul_le_mul (by omega) (by omega)
    omega
  · exact h2
theorem length_1000 {l : List Spot} (h : lcheck l = 0) : 1000 ≤ lengthN l := by
  obtain ⟨h2, h40, hin, hne⟩ := (lcheck_iff l).1 h
  unfold lengthN
  rw [if_neg (fun h' => h' h)]
  have hs : 1 ≤ sqN (gS l 0) (gS l 1) := by
    have h1 := seg_pos (hin 0 (by omega)) (hin 1 (by omega)) (hne 0 (by omega))
    rcases Nat.eq_zero_or_pos (sqN (gS l 0) (gS l 1)) with h0 | h0
    · exfalso
      unfold seg at h1
      rw [h0] at h1
      have := (rootN_is 0 (by omega)).1
      have h3 : 1 * 1 ≤ rootN (1000000 * 0) * rootN (1000000 * 0) := Nat.mul_le_mul h1 h1
      simp only [Nat.mul_zero] at h3
      omega
    · exact h0
  have hb := sqN_le (hin 0 (by omega)) (hin 1 (by omega))
  have h1 : 1000 ≤ seg (gS l 0) (gS l 1) := rootN_ge (by omega) (by omega)
  have h3 := lenTo_mono (l := l) (show 1 ≤ l.length - 1 by omega)
  have h4 : lenTo l 1 = seg (gS l 0) (gS l 1) := by simp [lenTo]
  omega
end Go.Proofs.YtkigmpholnfkbaaGreat
namespace Go.Proofs.YtkigmpholnfkbaaGreat
open Go.RowKit
theorem styE_zero {x : StyX} (h : styE x = 0) : wholeE x = 0 ∧ (∀ k, k < x.ps.length → pieceE x.ps k = 0) ∧ (∀ k, k < x.us.length → useE x k = 0) ∧ ∀ k, k < x.ss.length → joinE x k = 0 := by
  unfold styE at h
  split at h
  · rename_i h1; exact absurd h h1
  rename_i h1
  split at h
  · rename_i h2; exact absurd h h2
  rename_i h2
  split at h
  · rename_i h3; exact absurd h h3
  rename_i h3
  exact ⟨Classical.not_not.1 h1, (firstE_zero _ _).1 (Classical.not_not.1 h2), (firstE_zero _ _).1 (Classical.not_not.1 h3), (firstE_zero _ _).1 h⟩
theorem styE_mk {x : StyX} (h1 : wholeE x = 0) (h2 : ∀ k, k < x.ps.length → pieceE x.ps k = 0) (h3 : ∀ k, k < x.us.length → useE x k = 0) (h4 : ∀ k, k < x.ss.length → joinE x k = 0) : styE x = 0 := by
  unfold styE
  rw [if_neg (fun h => h h1), if_neg (fun h => h ((firstE_zero _ _).2 h2)), if_neg (fun h => h ((firstE_zero _ _).2 h3))]
  exact (firstE_zero _ _).2 h4
/- what a piece in order gives -/
structure PxOk (X : PcX) : Prop where
  g : GOk X.p.es X.p.cs 0
  n : plE X.p 0 = 0
  w : X.p.ws.length = X.p.es.length
theorem pieceE_ok {l : List PcX} {k : Nat} (h : pieceE l k = 0) : PxOk (gPx l k) := by
  unfold pieceE at h
  split at h
  · cases h
  split at h
  · cases h
  split at h
  · cases h
  split at h
  · rename_i h1; exact absurd h h1
  rename_i h1
  split at h
  · rename_i h2; exact absurd h h2
  rename_i h2
  split at h
  · cases h
  rename_i h3
  exact ⟨(gradedR_iff _ _ _).1 (Classical.not_not.1 h1), Classical.not_not.1 h2, by omega⟩
theorem whole_ms {x : StyX} (h : wholeE x = 0) : x.ms.length = x.sz.length ∧ ∀ i, i < x.ms.length → -100 ≤ gI x.ms i ∧ gI x.ms i ≤ 100 := by
  unfold wholeE at h
  split at h
  · cases h
  split at h
  · cases h
  split at h
  · cases h
  rename_i h3
  split at h
  · cases h
  split at h
  · cases h
  split at h
  · cases h
  split at h
  · cases h
  rename_i h7
  exact ⟨by omega, fun i hi => of_decide_eq_true ((allB_iff _ _).1 (eq_true_of_ne_false h7) i hi)⟩
/- pieces replaced by others with the same names, grains, widths and numbers of edges -/
def mapX (x : StyX) (T : Pc → Pc) : StyX := ⟨x.nm, x.sz, x.ms, x.ps.map fun X => ⟨X.nm, X.gr, T X.p⟩, x.us, x.ss, x.no⟩
theorem mapX_get {x : StyX} {T : Pc → Pc} {k : Nat} (h : k < x.ps.length) : gPx (mapX x T).ps k = ⟨(gPx x.ps k).nm, (gPx x.ps k).gr, T (gPx x.ps k).p⟩ := by
  rw [gPx_eq (by simpa [mapX] using h), gPx_eq h]; simp [mapX]
theorem mapX_len (x : StyX) (T : Pc → Pc) : (mapX x T).ps.length = x.ps.length := by simp [mapX]
theorem mapX_edge {x : StyX} {T : Pc → Pc} (hT : ∀ k, k < x.ps.length → (T (gPx x.ps k).p).es.length = (gPx x.ps k).p.es.length) (a b : Int) : edgeB (mapX x T).s a b = edgeB x.s a b := by
  unfold edgeB
  rw [decide_eq_decide]
  have hl : (mapX x T).s.ps.length = x.s.ps.length := by simp [StyX.s, mapX]
  rw [hl]
  constructor
  · rintro ⟨h1, h2, h3, h4⟩
    have hk : a.toNat < x.ps.length := by simp [StyX.s] at h2; omega
    refine ⟨h1, h2, h3, ?_⟩
    have e1 : gPc (mapX x T).s.ps a.toNat = T (gPx x.ps a.toNat).p := by
      show gPc ((mapX x T).ps.map PcX.p) a.toNat = _
      rw [gPc_x (by rw [mapX_len]; exact hk), mapX_get hk]
    have e2 : gPc x.s.ps a.toNat = (gPx x.ps a.toNat).p := gPc_x hk
    rw [e1, hT _ hk] at h4
    rw [e2]; exact h4
  · rintro ⟨h1, h2, h3, h4⟩
    have hk : a.toNat < x.ps.length := by simp [StyX.s] at h2; omega
    refine ⟨h1, h2, h3, ?_⟩
    have e1 : gPc (mapX x T).s.ps a.toNat = T (gPx x.ps a.toNat).p := by
      show gPc ((mapX x T).ps.map PcX.p) a.toNat = _
      rw [gPc_x (by rw [mapX_len]; exact hk), mapX_get hk]
    have e2 : gPc x.s.ps a.toNat = (gPx x.ps a.toNat).p := gPc_x hk
    rw [e1, hT _ hk]
    rw [e2] at h4; exact h4
theorem mapX_spc {x : StyX} {T : Pc → Pc} (hT : ∀ k, k < x.ps.length → (T (gPx x.ps k).p).es.length = (gPx x.ps k).p.es.length) (h0 : styE x = 0) (h1 : styE (mapX x T) = 0) (l : List PomX) : spcE (mapX x T) l = spcE x l := by
  unfold spcE
  rw [h0, h1]
  have hp : ∀ i, i < l.length → pomE (mapX x T) l i = pomE x l i := fun i _ => by
    have ha : allB (pomRef (mapX x T) (gPm l i)) (gPm l i).ps.length = allB (pomRef x (gPm l i)) (gPm l i).ps.length := allB_congr fun j _ => by unfold pomRef; exact mapX_edge hT _ _
    unfold pomE; rw [ha]
  rw [firstE_congr hp]
/- turned -/
theorem tnX_piece {x : StyX} {q : Int} {k : Nat} (hk : k < x.ps.length) (hw : WfE (gPx x.ps k).p.es) (hc : WfL (gPx x.ps k).p.cs) (h : pieceE x.ps k = 0) : pieceE (mapX x fun p => tnPc p q).ps k = 0 := by
  have hok := pieceE_ok h
  have hg := graded_val (q := q) hok.g (m := 0) (by omega) (by omega) hw hc
  have hn : plE (tnPc (gPx x.ps k).p q) 0 = 0 := (tn_E hw hc).2 hok.n
  have hz : gradedR (gPx x.ps k).p.es (gPx x.ps k).p.cs 0 = 0 := (gradedR_iff _ _ _).2 hok.g
  have e := mapX_get (T := fun p => tnPc p q) hk
  have ha : (List.range k).any (fun j => decide ((gPx (mapX x fun p => tnPc p q).ps j).nm.data.toList = (gPx (mapX x fun p => tnPc p q).ps k).nm.data.toList)) = (List.range k).any (fun j => decide ((gPx x.ps j).nm.data.toList = (gPx x.ps k).nm.data.toList)) := by
    rw [e]
    rw [Bool.eq_iff_iff, List.any_eq_true, List.any_eq_true]
    constructor
    · rintro ⟨j, hj, hd⟩
      refine ⟨j, hj, ?_⟩
      have hj' := List.mem_range.1 hj
      rw [mapX_get (show j < x.ps.length by omega)] at hd
      exact hd
    · rintro ⟨j, hj, hd⟩
      refine ⟨j, hj, ?_⟩
      have hj' := List.mem_range.1 hj
      rw [mapX_get (show j < x.ps.length by omega)]
      exact hd
  unfold pieceE at h ⊢
  rw [ha, e]
  simp only
  have hE : (tnPc (gPx x.ps k).p q).es.length = (gPx x.ps k).p.es.length := turnE_len _ _ _
  have hR : gradedR (tnPc (gPx x.ps k).p q).es (tnPc (gPx x.ps k).p q).cs 0 = 0 := hg.trans hz
  rw [hR, hn, hE]
  rw [hz, hok.n] at h
  exact h
theorem tnX_ok {x : StyX} {q : Int} (hw : ∀ k, k < x.ps.length → WfE (gPx x.ps k).p.es ∧ WfL (gPx x.ps k).p.cs) (h : styE x = 0) : styE (mapX x fun p => tnPc p q) = 0 := by
  obtain ⟨h1, h2, h3, h4⟩ := styE_zero h
  have hT : ∀ k, k < x.ps.length → (tnPc (gPx x.ps k).p q).es.length = (gPx x.ps k).p.es.length := fun k _ => turnE_len _ _ _
  refine styE_mk ?_ (fun k hk => ?_) (fun k hk => ?_) (fun k hk => ?_)
  · unfold wholeE at h1 ⊢
    rw [mapX_len]; exact h1
  · rw [mapX_len] at hk
    exact tnX_piece hk (hw k hk).1 (hw k hk).2 (h2 k hk)
  · have := h3 k hk
    unfold useE at this ⊢
    rw [mapX_len]; exact this
  · have := h4 k hk
    unfold joinE at this ⊢
    rw [mapX_edge hT, mapX_edge hT]; exact this
theorem tn_grd {p : Pc} {q m : Int} (hg : GOk p.es p.cs m) {k : Nat} (hk : k < p.es.length) : grdN (tnPc p q) m k = grdN p m k := by
  unfold grdN
  show lengthN (gE (gradedE (turnE false q p.es) (turnC false q p.es.length p.cs) m) k).2 = _
  rw [gradedE_turn' false q hg, tn_get (by rw [gradedE_len]; exact hk)]
  obtain ⟨_, _, hin⟩ := lcheck_zero (ocheck_line hg.ok' (i := k) (by rw [gradedE_len]; exact hk))
  exact tn_len fun j hj => inB_wf (hin j hj)
theorem tnX_targ {x : StyX} {q z : Int} {p : PomX} (hw : ∀ k, k < x.ps.length → WfE (gPx x.ps k).p.es ∧ WfL (gPx x.ps k).p.cs) (h : styE x = 0) : targE (mapX x fun p => tnPc p q) p z = targE x p z ∧ targV (mapX x fun p => tnPc p q) p z = targV x p z := by
  have hT : ∀ k, k < x.ps.length → (tnPc (gPx x.ps k).p q).es.length = (gPx x.ps k).p.es.length := fun k _ => turnE_len _ _ _
  have hs := mapX_spc hT h (tnX_ok hw h) [p]
  obtain ⟨h1, h2, _, _⟩ := styE_zero h
  obtain ⟨m1, m2⟩ := whole_ms h1
  have hE : targE (mapX x fun p => tnPc p q) p z = targE x p z := by
    unfold targE
    rw [hs]
    by_cases c1 : spcE x [p] ≠ 0
    · rw [if_pos c1, if_pos c1]
    rw [if_neg c1, if_neg c1]
    by_cases c2 : z < 0 ∨ (x.sz.length : Int) ≤ z
    · rw [if_pos c2, if_pos (show z < 0 ∨ ((mapX x fun p => tnPc p q).sz.length : Int) ≤ z from c2)]
    rw [if_neg c2, if_neg (show ¬ (z < 0 ∨ ((mapX x fun p => tnPc p q).sz.length : Int) ≤ z) from c2)]
    obtain ⟨_, hp⟩ := spcE_one.1 (Classical.not_not.1 c1)
    unfold tgE
    refine firstE_congr fun k hk => ?_
    have he := edgeB_iff (hp.rf k hk)
    have hk' : (gI p.ps k).toNat < x.ps.length := by have := he.2.1; simp [StyX.s] at this; omega
    unfold tgR
    rw [mapX_get hk']
    have hm := m2 z.toNat (by omega)
    exact graded_val (pieceE_ok (h2 _ hk')).g hm.1 hm.2 (hw _ hk').1 (hw _ hk').2
  refine ⟨hE, ?_⟩
  unfold targV
  rw [hE]
  by_cases c1 : targE x p z ≠ 0
  · rw [if_pos c1, if_pos c1]
  rw [if_neg c1, if_neg c1]
  obtain ⟨t1, t2, t3⟩ := targE_zero.1 (Classical.not_not.1 c1)
  obtain ⟨_, hp⟩ := spcE_one.1 t1
  rw [tgTo_sum, tgTo_sum]
  rw [sumN_congr (n := p.ps.length) (g := tgN (mapX x fun p => tnPc p q) p (gI (mapX x fun p => tnPc p q).ms z.toNat)) (h := tgN x p (gI x.ms z.toNat)) (fun k hk => ?_) _ (Nat.le_refl _)]
  have he := edgeB_iff (hp.rf k hk)
  have hk' : (gI p.ps k).toNat < x.ps.length := by have := he.2.1; simp [StyX.s] at this; omega
  unfold tgN
  rw [mapX_get hk']
  have e2 : gPc x.s.ps (gI p.ps k).toNat = (gPx x.ps (gI p.ps k).toNat).p := gPc_x hk'
  have h4 := he.2.2.2
  rw [e2] at h4
  exact tn_grd ((gradedR_iff _ _ _).1 (t3 k hk)) (by have := he.2.2.1; omega)
/- moved: every vertex by the same -/
def mvE (d : Spot) (es : List Edge) : List Edge := es.map fun e => (e.1, e.2.map (moveS d))
def mvP (d : Spot) (p : Pc) : Pc := ⟨mvE d p.es, p.cs, p.ws, p.ns⟩
theorem mvE_get {d : Spot} {es : List Edge} {k : Nat} (h : k < es.length) : gE (mvE d es) k = ((gE es k).1, (gE es k).2.map (moveS d)) := by
  unfold mvE gE; simp [h]
theorem mvE_len (d : Spot) (es : List Edge) : (mvE d es).length = es.length := by simp [mvE]
theorem mvS_shift {l : List Spot} {a b d : Spot} {k : Nat} (h : lcheck l = 0) (ha : inR 100000 a) (hb : inR 100000 b) (hd : inR 1000 d) (hl' : lcheck (l.map (moveS d)) = 0) (hk : k < l.length) :
    mvS (l.map (moveS d)) a b k = ((mvS l a b k).1 + d.1, (mvS l a b k).2 + d.2) := by
  obtain ⟨h2, _, hin⟩ := lcheck_zero h
  obtain ⟨_, _, hin'⟩ := lcheck_zero hl'
  obtain ⟨c1, c2, c3, c4⟩ := hin k hk
  obtain ⟨d1, d2, d3, d4⟩ := hd
  have e : gS (l.map (moveS d)) k = ((gS l k).1 + d.1, (gS l k).2 + d.2) := by
    rw [gS_map hk]
    unfold moveS
    rw [w64 (by omega) (by omega), w64 (by omega) (by omega)]
  obtain ⟨g1, g2, g3, g4⟩ := hin' k (by simpa using hk)
  rw [e] at g1 g2 g3 g4
  simp only at g1 g2 g3 g4
  obtain ⟨a1, a2, a3, a4⟩ := ha
  obtain ⟨b1, b2, b3, b4⟩ := hb
  unfold mvS
  rw [e, List.length_map]
  simp only
  have hs : (1 : Int) ≤ (l.length : Int) - 1 := by omega
  rw [mvx_eq hs (by omega) (by omega) ⟨a1, a2⟩ ⟨b1, b2⟩ ⟨g1, g2⟩, mvx_eq hs (by omega) (by omega) ⟨a3, a4⟩ ⟨b3, b4⟩ ⟨g3, g4⟩, mvx_eq hs (by omega) (by omega) ⟨a1, a2⟩ ⟨b1, b2⟩ ⟨c1, c2⟩, mvx_eq hs (by omega) (by omega) ⟨a3, a4⟩ ⟨b3, b4⟩ ⟨c3, c4⟩]
  refine Prod.ext ?_ ?_ <;> simp only <;> omega
theorem mv_grd {p : Pc} {m : Int} {d : Spot} {k : Nat} (h : GOk p.es p.cs m) (h' : GOk (mvP d p).es (mvP d p).cs m) (hd : inR 1000 d) (hk : k < p.es.length) : grdN (mvP d p) m k = grdN p m k := by
  have hk' : k < (mvP d p).es.length := by simp only [mvP, mvE_len]; exact hk
  have hl := ocheck_line h.ok hk
  have hl' := ocheck_line h'.ok hk'
  have hg := ocheck_line h.ok' (i := k) (by rw [gradedE_len]; exact hk)
  have hg' := ocheck_line h'.ok' (i := k) (by rw [gradedE_len]; exact hk')
  have eG : (gE (mvP d p).es k).2 = (gE p.es k).2.map (moveS d) := by simp only [mvP]; rw [mvE_get hk]
  rw [eG] at hl'
  have hn : 0 < p.cs.length := by have := h.len; omega
  have hcb := (cornF_iff p.cs).1 h.corn
  have A := (mulS_R h.m0 h.m1 (hcb (k % p.cs.length) (Nat.mod_lt _ hn))).2
  have B := (mulS_R h.m0 h.m1 (hcb ((k + 1) % p.cs.length) (Nat.mod_lt _ hn))).2
  have e1 : (gE (gradedE p.es p.cs m) k).2 = movedS (gE p.es k).2 (mulS m (gS p.cs (k % p.cs.length))) (mulS m (gS p.cs ((k + 1) % p.cs.length))) := by rw [gradedE_get hk]; rfl
  have e2 : (gE (gradedE (mvP d p).es (mvP d p).cs m) k).2 = movedS ((gE p.es k).2.map (moveS d)) (mulS m (gS p.cs (k % p.cs.length))) (mulS m (gS p.cs ((k + 1) % p.cs.length))) := by
    rw [gradedE_get hk']; unfold gradedAt; rw [eG]; rfl
  obtain ⟨h2, _, _⟩ := lcheck_zero hl
  unfold grdN lengthN
  rw [if_neg (fun hc => hc hg'), if_neg (fun hc => hc hg), e1, e2, movedS_len, movedS_len, List.length_map, lenTo_sum, lenTo_sum]
  refine sumN_congr (n := (gE p.es k).2.length - 1) (fun j hj => ?_) _ (Nat.le_refl _)
  rw [movedS_g (show j < ((gE p.es k).2.map (moveS d)).length by rw [List.length_map]; omega), movedS_g (show j + 1 < ((gE p.es k).2.map (moveS d)).length by rw [List.length_map]; omega), movedS_g (show j < (gE p.es k).2.length by omega), movedS_g (show j + 1 < (gE p.es k).2.length by omega)]
  rw [mvS_shift hl A B hd hl' (by omega), mvS_shift hl A B hd hl' (by omega)]
  generalize mvS (gE p.es k).2 _ _ j = u
  generalize mvS (gE p.es k).2 _ _ (j + 1) = v
  unfold seg sqN
  simp only
  rw [show v.1 + d.1 - (u.1 + d.1) = v.1 - u.1 by omega, show v.2 + d.2 - (u.2 + d.2) = v.2 - u.2 by omega]
theorem mvX_targ {x : StyX} {z : Int} {p : PomX} {d : Spot} (hd : inR 1000 d) (h0 : targE x p z = 0) (h1 : targE (mapX x (mvP d)) p z = 0) : targV (mapX x (mvP d)) p z = targV x p z := by
  obtain ⟨t1, t2, t3⟩ := targE_zero.1 h0
  obtain ⟨_, _, u3⟩ := targE_zero.1 h1
  obtain ⟨_, hp⟩ := spcE_one.1 t1
  unfold targV
  rw [if_neg (fun h => h h1), if_neg (fun h => h h0), tgTo_sum, tgTo_sum]
  rw [sumN_congr (n := p.ps.length) (g := tgN (mapX x (mvP d)) p (gI (mapX x (mvP d)).ms z.toNat)) (h := tgN x p (gI x.ms z.toNat)) (fun k hk => ?_) _ (Nat.le_refl _)]
  have he := edgeB_iff (hp.rf k hk)
  have hk' : (gI p.ps k).toNat < x.ps.length := by have := he.2.1; simp [StyX.s] at this; omega
  have e2 : gPc x.s.ps (gI p.ps k).toNat = (gPx x.ps (gI p.ps k).toNat).p := gPc_x hk'
  have h4 := he.2.2.2
  rw [e2] at h4
  have u := u3 k hk
  unfold tgR at u
  rw [mapX_get hk'] at u
  unfold tgN
  rw [mapX_get hk']
  exact mv_grd ((gradedR_iff _ _ _).1 (t3 k hk)) ((gradedR_iff _ _ _).1 u) hd (by have := he.2.2.1; omega)
end Go.Proofs.YtkigmpholnfkbaaGreat
